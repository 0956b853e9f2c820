/- Lists of numbers; Around, At. Decoding an integer at the beginning of bytes (layer 1), on lists of bytes. No program in sight. Encoded numbers: wire.Int, wire.Ints and the reference's. -/
import Derived.Test.YtdbebdjnpckfdaaDoorFp
import Derived.Test.YtdbebdjnpckfdaaDoorTy
import Derived.Test.YtdbebdjnpckfdaaDoorGa
import Derived.Test.YtdbebdjnpckfdaaDoorSn
import Derived.Test.YtdbebdjnpckfdaaDoorFr
set_option linter.unusedSimpArgs false
set_option linter.unusedVariables false
namespace Go.Lx
open Go.V
theorem drop_step {α : Type} {l : List α} {k : Nat} {d : α} (h : k < l.length) : l.drop k = l.getD k d :: l.drop (k + 1) := by
  rw [List.drop_eq_getElem_cons h, List.getD_eq_getElem?_getD, List.getElem?_eq_getElem h]; rfl
theorem take_snoc {α : Type} {l : List α} {k : Nat} {d : α} (h : k < l.length) : l.take (k + 1) = l.take k ++ [l.getD k d] := by
  rw [List.take_add_one, List.getD_eq_getElem?_getD, List.getElem?_eq_getElem h]; rfl
theorem app_lt {α : Type} {l m : List α} {d : α} {i : Nat} (h : i < l.length) : (l ++ m).getD i d = l.getD i d := by
  rw [List.getD_eq_getElem?_getD, List.getD_eq_getElem?_getD, List.getElem?_append_left h]
theorem app_eq {α : Type} {l : List α} {x d : α} : (l ++ [x]).getD l.length d = x := by
  rw [List.getD_eq_getElem?_getD, List.getElem?_append_right (Nat.le_refl _), Nat.sub_self]; rfl
theorem set_get {α : Type} {l : List α} {k : Nat} {v d : α} (h : k < l.length) : (l.set k v).getD k d = v := by
  rw [List.getD_eq_getElem?_getD, List.getElem?_set, if_pos rfl, if_pos h]; rfl
theorem set_ne {α : Type} {l : List α} {k j : Nat} {v d : α} (h : j ≠ k) : (l.set k v).getD j d = l.getD j d := by
  rw [List.getD_eq_getElem?_getD, List.getElem?_set, if_neg (Ne.symm h), ← List.getD_eq_getElem?_getD]
theorem getD_mem {α : Type} {l : List α} {k : Nat} {d : α} (h : k < l.length) : l.getD k d ∈ l := by
  rw [List.getD_eq_getElem?_getD, List.getElem?_eq_getElem h]; exact List.getElem_mem _
theorem mem_getD {α : Type} {l : List α} {x d : α} : x ∈ l ↔ ∃ j, j < l.length ∧ l.getD j d = x := by
  rw [List.mem_iff_getElem]
  constructor
  · rintro ⟨j, hj, h⟩
    exact ⟨j, hj, by rw [List.getD_eq_getElem?_getD, List.getElem?_eq_getElem hj]; exact h⟩
  · rintro ⟨j, hj, h⟩
    rw [List.getD_eq_getElem?_getD, List.getElem?_eq_getElem hj] at h
    exact ⟨j, hj, h⟩
/-- Where the first element is for which a test holds; -1: nowhere. -/
def idx {α : Type} (q : α → Bool) (k : Nat) : List α → Int
  | [] => -1
  | v :: r => if q v = true then (k : Int) else idx q (k + 1) r
theorem idx_step {α : Type} {q : α → Bool} {l : List α} {k : Nat} {d : α} (h : k < l.length) : idx q k (l.drop k) = if q (l.getD k d) = true then (k : Int) else idx q (k + 1) (l.drop (k + 1)) := by
  rw [drop_step (d := d) h, idx]
theorem idx_any {α : Type} {q : α → Bool} : ∀ {l : List α} {k : Nat}, decide (0 ≤ idx q k l) = l.any q
  | [], k => by rw [idx]; rfl
  | v :: r, k => by
    rw [idx, List.any_cons]
    cases hq : q v with
    | true => simp
    | false => simpa using idx_any (q := q) (l := r) (k := k + 1)
def absI (n : Int) : Int := if n < 0 then -(n + 1) else n
def aroundI (n m : Int) : Int := if m < 1 then 0 else absI n % m
theorem around_lt (n m : Int) (h : 1 ≤ m) : 0 ≤ aroundI n m ∧ aroundI n m < m := by
  unfold aroundI
  rw [if_neg (by omega)]
  exact ⟨Int.emod_nonneg _ (by omega), Int.emod_lt_of_pos _ (by omega)⟩
def atI (l : List Int) (i : Int) (m : Int) : Int := if i < 0 ∨ (l.length : Int) ≤ i then 0 else aroundI (l.getD i.toNat 0) m
theorem at_lt (l : List Int) (i : Int) (m : Int) (h : 1 ≤ m) : 0 ≤ atI l i m ∧ atI l i m < m := by
  unfold atI
  split
  · omega
  · exact around_lt _ _ h
def I64 (n : Int) : Prop := -9223372036854775808 ≤ n ∧ n ≤ 9223372036854775807
def IOk (l : List Int) : Prop := l.length ≤ 9223372036854775807 ∧ ∀ x ∈ l, -9223372036854775808 ≤ x ∧ x ≤ 9223372036854775807
theorem IOk.get {l : List Int} (h : IOk l) (i : Nat) : -9223372036854775808 ≤ l.getD i 0 ∧ l.getD i 0 ≤ 9223372036854775807 := by
  rcases Nat.lt_or_ge i l.length with hi | hi
  · rw [List.getD_eq_getElem?_getD, List.getElem?_eq_getElem hi]; exact h.2 _ (List.getElem_mem hi)
  · rw [List.getD_eq_getElem?_getD, List.getElem?_eq_none hi]; exact ⟨by decide, by decide⟩
end Go.Lx
namespace Go.V
open Go.Lx
/-- A list of numbers: read-only, own. -/
abbrev liV (l : List Int) : AV := .rsl false l.length 1 (fun i => .int .i64 (l.getD i 0))
abbrev liO (l : List Int) : AV := .arr l.length 1 (fun i => .int .i64 (l.getD i 0))
theorem rel_snocG {A : Nat → Prop} {σ : Nat → Nat} {α : Type} {G : α → AV} {d : α} (hG : ∀ e, NoId (G e)) {o : List α} {x : α} {K : Nat → AV} {i : Nat} (hi : i < o.length + 1) (hK : K 0 = G x := by rfl) : RelA A σ (G ((o ++ [x]).getD i d)) (joinF o.length (fun i => G (o.getD i d)) K i) := by
  rcases Nat.lt_or_ge i o.length with h1 | h1
  · rw [joinF_lt h1, app_lt h1]; exact NoId.self (hG _)
  · obtain rfl : i = o.length := by omega
    rw [joinF_ge (Nat.le_refl _), app_eq, Nat.sub_self, hK]; exact NoId.self (hG _)
theorem rel_setG {A : Nat → Prop} {σ : Nat → Nat} {α : Type} {G : α → AV} {d : α} (hG : ∀ e, NoId (G e)) {o : List α} {x : α} {k i : Nat} {u : AV} (hk : k < o.length) (hu : u = G x) : RelA A σ (G ((o.set k x).getD i d)) (bif Nat.beq i (0 + k) then u else G (o.getD i d)) := by
  by_cases h : i = k
  · rw [bif_eq (show i = 0 + k by omega), h, set_get hk, hu]; exact NoId.self (hG _)
  · rw [bif_ne (show i ≠ 0 + k by omega), set_ne h]; exact NoId.self (hG _)
theorem view_li {H : Asc} {bor D : Nat → Prop} {σ : Nat → Nat} {id n : Nat} {l : List Int} (h : get? H id = some (.arr n 1 (fun i => .int .i64 (l.getD i 0)))) (hb : bor id) (hn : l.length = n) : View H bor D σ (liV l) (.sl id [] 1 0 n) := by
  subst hn
  exact View.sln h rfl trivial (by omega) hb rfl fun i hi => by rw [Nat.zero_add]; exact rfl
theorem retC_conv' {F : Fr} {T : List (Option TI)} {fn : Func} {R : AV → Asc → Prop} {x : Exit} {s s' : St} (h : ∀ a w, Sim F s a w → Sim F s' a w) (h2 : retC F T fn R x s') : retC F T fn R x s := by
  obtain ⟨s2, h3, h4⟩ := h2
  exact ⟨s2, fun a w hs => h3 a w (h a w hs), h4⟩
theorem Sim.impT' {F : Fr} {e h g : Asc} {N : Nat} (t : Nat) {u u' : AV} (hu : get? e t = some u) (hI : Imp u' u) : ∀ a w, Sim F ⟨e, h, g, N⟩ a w → Sim F ⟨(t, u') :: e, h, g, N⟩ a w := by
  rintro a w ⟨c, ns, rfl, ho, he, r⟩
  refine ⟨c, ns, rfl, ho, ⟨fun t' v hv => ?_, he.glob⟩, r⟩
  by_cases e1 : t = t'
  · subst e1
    rw [get?_cons, if_pos rfl] at hv
    cases hv
    obtain ⟨q1, q2⟩ := he.slot t u hu
    exact ⟨q1, hI c _ _ q2⟩
  · rw [get?_cons, if_neg e1] at hv
    exact he.slot t' v hv
end Go.V
namespace Go.Proofs.YtdbebdjnpckfdaaDoor
open Go.V Go.RowKit Go.L Go.Lx
set_option maxRecDepth 10000
set_option maxHeartbeats 2000000
theorem lAround_ok (n m : Int) (hn : I64 n) : Ok Tryd.prog 8 [] [] (.pair (.int .i64 n) (.pair (.int .i64 m) .nul)) (fun r h' => r = .int .i64 (aroundI n m) ∧ h' = []) := by
  obtain ⟨n1, n2⟩ := hn
  unfold aroundI absI
  by_cases hneg : n < 0
  · rw [if_pos hneg]
    by_cases hm : m < 1
    · rw [if_pos hm]
      refine Ok.of_vcC tt_ok Tryd.func8 rfl rfl (by show 2 ≤ _; decide) 0 (hlt_ok (by rfl)) fun c0 => ?_
      repeat' (first | (refine SS_ ?_) | (refine VC.litT (by rfl) LTR_ ?_) | fail)
      (refine retC_mk ([(4, .int .i64 0)]) ([]) 0 (Sim.less [] (by rfl) R_ R_) (retQ_ok (by rfl) ([]) (fun i av h => h) ⟨?_, ?_⟩)) <;> rfl
    · rw [if_neg hm]
      refine Ok.of_vcC tt_ok Tryd.func8 rfl rfl (by show 2 ≤ _; decide) 0 (hlt_ok (by rfl)) fun c0 => ?_
      repeat' (first | (refine SS_ ?_) | (refine VC.litT (by rfl) LTR_ ?_) | (refine VC.litF (by rfl) LFA_ ?_) | fail)
      (refine retC_mk ([(4, .int .i64 ((0 - (n + 1)) % m))]) ([]) 0 (Sim.less [] (by rfl) R_ R_) (retQ_ok (by rfl) ([]) (fun i av h => h) ⟨?_, ?_⟩)) <;> first | rfl | (rw [Int.zero_sub])
  · rw [if_neg hneg]
    by_cases hm : m < 1
    · rw [if_pos hm]
      refine Ok.of_vcC tt_ok Tryd.func8 rfl rfl (by show 2 ≤ _; decide) 0 (hlt_ok (by rfl)) fun c0 => ?_
      repeat' (first | (refine SS_ ?_) | (refine VC.litT (by rfl) LTR_ ?_) | (refine VC.litF (by rfl) LFA_ ?_) | fail)
      (refine retC_mk ([(4, .int .i64 0)]) ([]) 0 (Sim.less [] (by rfl) R_ R_) (retQ_ok (by rfl) ([]) (fun i av h => h) ⟨?_, ?_⟩)) <;> rfl
    · rw [if_neg hm]
      refine Ok.of_vcC tt_ok Tryd.func8 rfl rfl (by show 2 ≤ _; decide) 0 (hlt_ok (by rfl)) fun c0 => ?_
      repeat' (first | (refine SS_ ?_) | (refine VC.litF (by rfl) LFA_ ?_) | fail)
      (refine retC_mk ([(4, .int .i64 (n % m))]) ([]) 0 (Sim.less [] (by rfl) R_ R_) (retQ_ok (by rfl) ([]) (fun i av h => h) ⟨?_, ?_⟩)) <;> rfl
theorem lAt_ok (l : List Int) (hl : IOk l) (i m : Int) : Ok Tryd.prog 7 [] [] (.pair (liV l) (.pair (.int .i64 i) (.pair (.int .i64 m) .nul))) (fun r h' => r = .int .i64 (atI l i m) ∧ h' = []) := by
  have hl1 := hl.1
  have c1 := lAround_ok (l.getD i.toNat 0) m (hl.get _)
  unfold atI
  by_cases h : i < 0 ∨ (l.length : Int) ≤ i
  · rw [if_pos h]
    refine Ok.of_vcC tt_ok Tryd.func7 rfl rfl (by show 3 ≤ _; decide) 0 (hlt_ok (by rfl)) fun c0 => ?_
    repeat' (first | (refine SS_ ?_) | (refine VC.litT (by rfl) LTR_ ?_) | (refine Seq.litC (by rfl) (by rfl) (fun hb => ?_) (fun hb => ?_) <;> (fail_if_success (with_reducible have := litT_ hb)) <;> (fail_if_success (with_reducible have := litF_ hb)) <;> (try simp only [HB_] at hb) <;> (try (exfalso; first | omega | (cases hb; done)))) | fail)
    all_goals ((refine retC_mk ([(6, .int .i64 0)]) ([]) 0 (Sim.less [] (by rfl) R_ R_) (retQ_ok (by rfl) ([]) (fun i av h => h) ⟨?_, ?_⟩)) <;> rfl)
  · rw [if_neg h]
    generalize aroundI (l.getD i.toNat 0) m = z at *
    refine Ok.of_vcC tt_ok Tryd.func7 rfl rfl (by show 3 ≤ _; decide) 0 (hlt_ok (by rfl)) fun c0 => ?_
    repeat' (first | (refine SS_ ?_) | (refine Seq.callp false (c1) Tryd.func8 GOk.nil subG.nil (by rfl) (by rfl) rfl rfl rfl rfl rfl (by rfl) rfl VW_ NI_ NI_ FR_ ?_) | (refine Seq.lit (by rfl) (by rfl) LT2_ ?_) | (refine VC.litF (by rfl) LFA_ ?_) | fail)
    (refine retC_mk ([(6, .int .i64 z)]) ([]) 0 (Sim.less [] (by rfl) R_ R_) (retQ_ok (by rfl) ([]) (fun i av h => h) ⟨?_, ?_⟩)) <;> rfl
end Go.Proofs.YtdbebdjnpckfdaaDoor

namespace Wire
def fl (b0 : UInt8) : UInt8 := if b0.toNat < 128 then 255 else 0
def neg (b0 : UInt8) (m : Nat) : Int := if b0.toNat < 128 then -1 - m else m
end Wire

namespace Go.V
open Go.RowKit Go.L
/-- A new row that a call returns, as an object of its own. -/
theorem Out.ownRow {c : Ctx} {w' : World} {g N : Nat} {t : TypeId} {av : AV} {xs ys : List Value} (hc : CtxOk c) (hb : Below c.w.heap.size c.w w') (hN : ¬ c.A N) (hg : c.w.heap.size ≤ g) (hr : w'.heap[g]? = some (.cells (xs ++ ys).toArray t (0, 0)))
    (hav : Rep { w := w', ρ := fun i => if i = N then g else c.ρ i, A := fun i => c.A i ∨ i = N, G := fun i => c.G i ∧ i ≠ N, S := c.S, B := c.B } av .C xs) :
    Out c [] [(N, av)] [N] { w := w', ρ := fun i => if i = N then g else c.ρ i, A := fun i => c.A i ∨ i = N, G := fun i => c.G i ∧ i ≠ N, S := c.S, B := c.B } := by
  have hne : ∀ i, c.A i → i ≠ N := fun i hi e => hN (e ▸ hi)
  have hle : Le c { w := w', ρ := fun i => if i = N then g else c.ρ i, A := fun i => c.A i ∨ i = N, G := fun i => c.G i ∧ i ≠ N, S := c.S, B := c.B } := by
    refine ⟨fun i hi => .inl hi, fun i hi => if_neg (hne i hi), fun i hi => ⟨fun h => h.1, fun h => ⟨h, hne i hi⟩⟩, fun i hi hG => ?_, fun b hS _ => ⟨hS, fun h => h, hb.block b (hc.S b hS)⟩⟩
    show bsize c.w (c.ρ i) ≤ bsize w' (if i = N then g else c.ρ i)
    rw [if_neg (hne i hi)]
    rcases Nat.lt_or_ge (c.ρ i) c.w.heap.size with h | h
    · rw [bsize_congr (hb.block _ h)]; exact Nat.le_refl _
    · rw [bsize_none h]; exact Nat.zero_le _
  have hcase : ∀ {id : Nat} {a : AV}, get? [(N, av)] id = some a → id = N ∧ a = av := fun {id a} hi => by
    rw [get?_cons] at hi
    by_cases e : N = id
    · rw [if_pos e] at hi; cases hi; exact ⟨e.symm, rfl⟩
    · rw [if_neg e] at hi; cases hi
  refine ⟨hle, rfl, fun i hi => ?_, ⟨fun id a hi => ?_, fun id a hi hG => ?_, fun id a hi hG => ?_, fun id a hi hG hS => ?_, fun i j a b hi hj _ _ _ => ?_⟩, ⟨fun b hS => Nat.lt_of_lt_of_le (hc.S b hS) hb.size, Nat.le_trans hc.B hb.size⟩, hb.os, hb.tape, hb.output, hb.size, fun b hlt _ => hb.block b hlt, fun id a hi hG => ?_, fun b hS => .inl hS⟩
  · rcases hi with h | h
    · exact .inl h
    · exact .inr (by rw [h]; exact List.mem_singleton.2 rfl)
  · exact .inr (hcase hi).1
  · obtain ⟨rfl, rfl⟩ := hcase hi
    refine .inl ⟨xs ++ ys, t, xs, ys, ?_, rfl, hav⟩
    show Blk w' (if id = id then g else c.ρ id) _ _
    rw [if_pos rfl]
    exact .of hr
  · exact absurd (hcase hi).1 hG.2
  · obtain ⟨rfl, rfl⟩ := hcase hi
    have hS : c.S (if id = id then g else c.ρ id) := hS
    rw [if_pos rfl] at hS
    have := hc.S g hS
    omega
  · rw [(hcase hi).1, (hcase hj).1]
  · obtain ⟨rfl, rfl⟩ := hcase hi
    right
    show c.w.heap.size ≤ (if id = id then g else c.ρ id)
    rw [if_pos rfl]; exact hg
theorem Ok.of_row {P : Program} {f : FuncId} {args : AV} {n sz : Nat} {F : Nat → AV} {e : TypeId} {l : List Value} (hn : 0 < n) (hsz : 0 < sz) (N : Nat) (hF : ∀ c, Rep c (.arr n sz F) .C l)
    (H : ∀ c vs, Rep c args .T vs → Calls P f vs.toArray c.w fun e' w' => ∃ v, e' = .returned v ∧ w'.ownsRow c.w.heap.size e sz v n l ∧ Below c.w.heap.size c.w w') : Ok P f [] [] args (fun r h' => r = .sl N [] sz 0 n ∧ h' = [(N, .arr n sz F)]) := by
  intro c hg hh hc hB hA vs hvs
  refine (H c vs hvs).mono fun e' w' hx => ?_
  obtain ⟨v, rfl, ⟨hl, h2⟩, hb⟩ := hx
  rcases h2 with ⟨_, h0⟩ | ⟨g, cap, cur, rfl, hgb, hcur, h3, h4, h5, h6⟩
  · omega
  · have hN : ¬ c.A N := fun h => by obtain ⟨av, h⟩ := hA N h; cases h
    have hcur2 : w'.heap[g]? = some (.cells (l ++ cur.toList.drop (n * sz)).toArray e (0, 0)) := by rw [hcur, ← h6, List.take_append_drop]
    refine ⟨_, _, _, _, [N], rfl, rfl, Out.ownRow (N := N) (av := .arr n sz F) hc hb hN hgb hcur2 (hF _), ?_, rfl, rfl⟩
    refine ⟨.inr rfl, .inr ⟨fun h => h.2 rfl, 0, cap, ?_, .inr (by simp [pathOff]), h3, h4, ?_⟩⟩
    · show _ = [Value.slice (some ⟨if N = N then g else c.ρ N, 0, none⟩) n cap]
      rw [if_pos rfl]
    · show 0 + cap * sz ≤ bsize w' (if N = N then g else c.ρ N)
      rw [if_pos rfl]
      unfold bsize
      rw [hcur]
      show _ ≤ cur.size
      omega
end Go.V
namespace Go.Proofs.YtdbebdjnpckfdaaDoor
open Go.V Go.RowKit Go.U Go.L Go.Lx
set_option maxRecDepth 10000
set_option maxHeartbeats 4000000
theorem wireInt_own (n : Int) (hn : I64 n) : Ok Tryd.prog 99 [] [] (.pair (.int .i64 n) .nul) (fun r h' => r = .sl 9 [] 1 0 (Wire.int n).length ∧ h' = [(9, u8A (Wire.int n).length (Wire.int n))]) :=
  Ok.of_row (Wire.int_length_pos n) (by decide) 9 (fun c => (rep_u8A rfl).2 rfl) fun c vs hvs => by
    obtain ⟨x, y, rfl, h1, h3⟩ := hvs
    have h1 : [x] = [_] := h1
    have h3 : y = [] := h3
    subst h3
    cases h1
    exact wireInt_any n c.w hn
theorem wireInt_ok (n : Int) (hn : I64 n) : Ok Tryd.prog 99 [] [] (.pair (.int .i64 n) .nul) (fun r h' => r = bytesA true (Wire.int n) ∧ h' = []) :=
  Ok.of_calls fun c vs hc hB hg hvs => by
    obtain ⟨x, y, rfl, h1, h3⟩ := hvs
    have h1 : [x] = [_] := h1
    have h3 : y = [] := h3
    subst h3
    cases h1
    refine (wireInt_any n c.w hn).mono fun e w' h => ?_
    obtain ⟨v, rfl, ho, hbl⟩ := h
    exact ⟨hbl, _, _, rfl, ⟨rfl, rfl⟩, own_bytes hB ho⟩
/-- A list of numbers, encoded. -/
def intsB (l : List Int) : List UInt8 := Wire.int l.length ++ l.flatMap Wire.int
def intsN (l : List Int) (k : Nat) : List UInt8 := Wire.int l.length ++ (l.take k).flatMap Wire.int
theorem intsN_zero (l : List Int) : intsN l 0 = Wire.int l.length := by simp [intsN]
theorem intsN_all (l : List Int) : intsN l l.length = intsB l := by simp [intsN, intsB]
theorem intsN_succ (l : List Int) (k : Nat) (h : k < l.length) : intsN l (k + 1) = intsN l k ++ Wire.int (l.getD k 0) := by
  simp [intsN, take_snoc (d := 0) h]
theorem intsN_len (l : List Int) : ∀ k, (intsN l k).length ≤ 9 + 9 * k
  | 0 => by rw [intsN_zero]; exact Wire.int_length _
  | k + 1 => by
    have ih := intsN_len l k
    rcases Nat.lt_or_ge k l.length with h | h
    · have := Wire.int_length (l.getD k 0)
      rw [intsN_succ l k h, List.length_append]; omega
    · have e : intsN l (k + 1) = intsN l k := by simp only [intsN]; rw [List.take_of_length_le (by omega), List.take_of_length_le h]
      rw [e]; omega
theorem viewT_bytes {H : Asc} {id n : Nat} {L : List UInt8} (h : get? H id = some (u8A n L)) (hn : L.length = n) : ViewT H (bytesA true L) (.sl id [] 1 0 n) := by
  subst hn
  exact ViewT.sl h rfl trivial (by omega) rfl fun i hi => ViewT.rel (by rw [Nat.zero_add]; exact rfl)
theorem wireInts_own (fr : Bool) (l : List Int) (hl : l.length ≤ 1000000000) (hI : ∀ i, I64 (l.getD i 0)) : Ok Tryd.prog 94 [] [] (.pair (.rsl fr l.length 1 (fun i => .int .i64 (l.getD i 0))) .nul) (fun r h' => r = .sl 0 [] 1 0 (intsB l).length ∧ h' = [(0, u8A (intsB l).length (intsB l))]) := by
  have c1 := wireInt_own l.length ⟨by omega, by omega⟩
  have hL : ∀ k, k < l.length → (intsN l k).length ≤ 100000000000 := fun k h => by have := intsN_len l k; omega
  refine Ok.of_vcC tt_ok Tryd.func94 rfl rfl (by show 1 ≤ _; decide) 0 (hlt_ok (by rfl)) fun c0 => ?_
  repeat' (first | (refine SS_ ?_) | (refine Seq.callo false [] [(0, 9)] (.sl 0 [] 1 0 (Wire.int l.length).length) ([(0, u8A (Wire.int l.length).length (Wire.int l.length))]) 1 (c1) Tryd.func99 GOk.nil subG.nil (by rfl) (by rfl) rfl rfl rfl rfl rfl (by rfl) rfl (by rfl) (by rfl) (by rfl) (by rfl) VW_ NI_ R_ (noFrL_ok NI_) BK_ ?_) | fail)
  refine VC.loop (fun k : Nat => ⟨[(11, .int .i64 (k : Nat)), (10, .int .i64 l.length), (9, .rsl fr l.length 1 (fun i => .int .i64 (l.getD i 0))), (3, .sl 0 [] 1 0 (intsN l k).length)], [(0, u8A (intsN l k).length (intsN l k))], [], 1⟩) (fun k => k ≤ l.length) (fun k => l.length - k) 0 (by omega) (by rw [intsN_zero]; exact (Sim.less [] (by rfl) R_ R_)) fun k hk => ?_
  by_cases hkl : k < l.length
  · have c2 := wireInt_ok (l.getD k 0) (hI k)
    have h1 := hL k hkl
    have h2 := Wire.int_length (l.getD k 0)
    have h3 := intsN_succ l k hkl
    generalize intsN l k = X at *
    generalize hY : intsN l (k + 1) = Y at *
    generalize hw : Wire.int (l.getD k 0) = w at *
    repeat' (first | (refine SS_ ?_) | (refine Seq.callq false (c2) Tryd.func99 GG_ SG_ (by rfl) rfl rfl rfl (by rfl) rfl VW_ NI_ NI_ FR_ ?_) | (refine VC.litT (by rfl) LTR_ ?_) | fail)
    refine ⟨k + 1, by omega, by omega, ?_⟩
    rw [hY, h3, List.length_append]
    (refine Sim.less [(0, 1)] (by rfl) ?_ ?_ <;> (repeat' (first | (exact EnvLe.nil) | (exact HeapLe.nil) | (with_reducible apply EnvLe.cons) | (with_reducible apply HeapLe.cons) | ((with_reducible refine RelA.int ?_; first | (refine Keep.mk ?_; first | with_reducible rfl | omega | decide) | skip)) | (exact rfl) | (exact ⟨rfl, rfl⟩) | ((with_reducible refine RelA.rsl ?_; intro i hi)) | ((refine RelA.arr ?_; intro i hi)) | fail)) <;> (try with_reducible refine Keep.mk ?_))
    exact RelA.of_eq (NoId.self trivial) (joinF_app rfl)
  · obtain rfl : k = l.length := by omega
    rw [intsN_all]
    generalize intsB l = Z at *
    repeat' (first | (refine SS_ ?_) | (refine VC.litF (by rfl) LFA_ ?_) | fail)
    (refine retC_mk ([(2, .sl 0 [] 1 0 Z.length)]) ([(0, u8A Z.length Z)]) 1 (Sim.less [] (by rfl) R_ R_) (retQ_ok (by rfl) ([(0, u8A Z.length Z)]) (fun i av h => h) ⟨?_, ?_⟩)) <;> rfl
theorem wireInts_ok (fr : Bool) (l : List Int) (hl : l.length ≤ 1000000000) (hI : ∀ i, I64 (l.getD i 0)) : Ok Tryd.prog 94 [] [] (.pair (.rsl fr l.length 1 (fun i => .int .i64 (l.getD i 0))) .nul) (fun r h' => r = bytesA true (intsB l) ∧ h' = []) :=
  (wireInts_own fr l hl hI).still fun r h' h => by
    obtain ⟨rfl, rfl⟩ := h
    exact ⟨_, viewT_bytes rfl rfl, rfl, rfl⟩
end Go.Proofs.YtdbebdjnpckfdaaDoor
