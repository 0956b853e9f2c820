
/- Encoded numbers: wire.Int, wire.Ints and the reference's. -/
import Derived.Test.YthejnchhddggmaaDoorIj
import Derived.Test.YthejnchhddggmaaDoorFr
import Derived.Test.YthejnchhddggmaaDoorLa
import Derived.Test.YthejnchhddggmaaDoorNa
set_option linter.unusedSimpArgs false
set_option linter.unusedVariables false
namespace Go.V
open Go.RowKit Go.L
/-- A new row that a call returns, as an object of its own. -/
theorem Out.ownRow {c : Ctx} {w' : World} {g N : Nat} {t : TypeId} {av : AV} {xs ys : List Value} (hc : CtxOk c) (hb : Below c.w.heap.size c.w w') (hN : ¬ c.A N) (hg : c.w.heap.size ≤ g) (hr : w'.heap[g]? = some (.cells (xs ++ ys).toArray t (0, 0)))
    (hav : Rep { w := w', ρ := fun i => if i = N then g else c.ρ i, A := fun i => c.A i ∨ i = N, G := fun i => c.G i ∧ i ≠ N, S := c.S, B := c.B } av .C xs) :
    Out c [] [(N, av)] [N] { w := w', ρ := fun i => if i = N then g else c.ρ i, A := fun i => c.A i ∨ i = N, G := fun i => c.G i ∧ i ≠ N, S := c.S, B := c.B } := by
  have hne : ∀ i, c.A i → i ≠ N := fun i hi e => hN (e ▸ hi)
  have hle : Le c { w := w', ρ := fun i => if i = N then g else c.ρ i, A := fun i => c.A i ∨ i = N, G := fun i => c.G i ∧ i ≠ N, S := c.S, B := c.B } := by
    refine ⟨fun i hi => .inl hi, fun i hi => if_neg (hne i hi), fun i hi => ⟨fun h => h.1, fun h => ⟨h, hne i hi⟩⟩, fun i hi hG => ?_, fun b hS _ => ⟨hS, fun h => h, hb.block b (hc.S b hS)⟩⟩
    show bsize c.w (c.ρ i) ≤ bsize w' (if i = N then g else c.ρ i)
    rw [if_neg (hne i hi)]
    rcases Nat.lt_or_ge (c.ρ i) c.w.heap.size with h | h
    · rw [bsize_congr (hb.block _ h)]; exact Nat.le_refl _
    · rw [bsize_none h]; exact Nat.zero_le _
  have hcase : ∀ {id : Nat} {a : AV}, get? [(N, av)] id = some a → id = N ∧ a = av := fun {id a} hi => by
    rw [get?_cons] at hi
    by_cases e : N = id
    · rw [if_pos e] at hi; cases hi; exact ⟨e.symm, rfl⟩
    · rw [if_neg e] at hi; cases hi
  refine ⟨hle, rfl, fun i hi => ?_, ⟨fun id a hi => ?_, fun id a hi hG => ?_, fun id a hi hG => ?_, fun id a hi hG hS => ?_, fun i j a b hi hj _ _ _ => ?_⟩, ⟨fun b hS => Nat.lt_of_lt_of_le (hc.S b hS) hb.size, Nat.le_trans hc.B hb.size⟩, hb.os, hb.tape, hb.output, hb.size, fun b hlt _ => hb.block b hlt, fun id a hi hG => ?_, fun b hS => .inl hS⟩
  · rcases hi with h | h
    · exact .inl h
    · exact .inr (by rw [h]; exact List.mem_singleton.2 rfl)
  · exact .inr (hcase hi).1
  · obtain ⟨rfl, rfl⟩ := hcase hi
    refine .inl ⟨xs ++ ys, t, xs, ys, ?_, rfl, hav⟩
    show Blk w' (if id = id then g else c.ρ id) _ _
    rw [if_pos rfl]
    exact .of hr
  · exact absurd (hcase hi).1 hG.2
  · obtain ⟨rfl, rfl⟩ := hcase hi
    have hS : c.S (if id = id then g else c.ρ id) := hS
    rw [if_pos rfl] at hS
    have := hc.S g hS
    omega
  · rw [(hcase hi).1, (hcase hj).1]
  · obtain ⟨rfl, rfl⟩ := hcase hi
    right
    show c.w.heap.size ≤ (if id = id then g else c.ρ id)
    rw [if_pos rfl]; exact hg
theorem Ok.of_row {P : Program} {f : FuncId} {args : AV} {n sz : Nat} {F : Nat → AV} {e : TypeId} {l : List Value} (hn : 0 < n) (hsz : 0 < sz) (N : Nat) (hF : ∀ c, Rep c (.arr n sz F) .C l)
    (H : ∀ c vs, Rep c args .T vs → Calls P f vs.toArray c.w fun e' w' => ∃ v, e' = .returned v ∧ w'.ownsRow c.w.heap.size e sz v n l ∧ Below c.w.heap.size c.w w') : Ok P f [] [] args (fun r h' => r = .sl N [] sz 0 n ∧ h' = [(N, .arr n sz F)]) := by
  intro c hg hh hc hB hA vs hvs
  refine (H c vs hvs).mono fun e' w' hx => ?_
  obtain ⟨v, rfl, ⟨hl, h2⟩, hb⟩ := hx
  rcases h2 with ⟨_, h0⟩ | ⟨g, cap, cur, rfl, hgb, hcur, h3, h4, h5, h6⟩
  · omega
  · have hN : ¬ c.A N := fun h => by obtain ⟨av, h⟩ := hA N h; cases h
    have hcur2 : w'.heap[g]? = some (.cells (l ++ cur.toList.drop (n * sz)).toArray e (0, 0)) := by rw [hcur, ← h6, List.take_append_drop]
    refine ⟨_, _, _, _, [N], rfl, rfl, Out.ownRow (N := N) (av := .arr n sz F) hc hb hN hgb hcur2 (hF _), ?_, rfl, rfl⟩
    refine ⟨.inr rfl, .inr ⟨fun h => h.2 rfl, 0, cap, ?_, .inr (by simp [pathOff]), h3, h4, ?_⟩⟩
    · show _ = [Value.slice (some ⟨if N = N then g else c.ρ N, 0, none⟩) n cap]
      rw [if_pos rfl]
    · show 0 + cap * sz ≤ bsize w' (if N = N then g else c.ρ N)
      rw [if_pos rfl]
      unfold bsize
      rw [hcur]
      show _ ≤ cur.size
      omega
end Go.V
namespace Go.Proofs.YthejnchhddggmaaDoor
open Go.V Go.RowKit Go.U Go.L Go.Lx
set_option maxRecDepth 10000
set_option maxHeartbeats 4000000
theorem wireInt_own (n : Int) (hn : I64 n) : Ok Tryd.prog 26 [] [] (.pair (.int .i64 n) .nul) (fun r h' => r = .sl 9 [] 1 0 (Wire.int n).length ∧ h' = [(9, u8A (Wire.int n).length (Wire.int n))]) :=
  Ok.of_row (Wire.int_length_pos n) (by decide) 9 (fun c => (rep_u8A rfl).2 rfl) fun c vs hvs => by
    obtain ⟨x, y, rfl, h1, h3⟩ := hvs
    have h1 : [x] = [_] := h1
    have h3 : y = [] := h3
    subst h3
    cases h1
    exact wireInt_any n c.w hn
theorem refInt_own (n : Int) (hn : I64 n) : Ok Tryd.prog 30 [] [] (.pair (.int .i64 n) .nul) (fun r h' => r = .sl 9 [] 1 0 (Wire.int n).length ∧ h' = [(9, u8A (Wire.int n).length (Wire.int n))]) :=
  Ok.of_row (Wire.int_length_pos n) (by decide) 9 (fun c => (rep_u8A rfl).2 rfl) fun c vs hvs => by
    obtain ⟨x, y, rfl, h1, h3⟩ := hvs
    have h1 : [x] = [_] := h1
    have h3 : y = [] := h3
    subst h3
    cases h1
    exact refInt_any n c.w hn
theorem wireInt_ok (n : Int) (hn : I64 n) : Ok Tryd.prog 26 [] [] (.pair (.int .i64 n) .nul) (fun r h' => r = bytesA true (Wire.int n) ∧ h' = []) :=
  Ok.of_calls fun c vs hc hB hg hvs => by
    obtain ⟨x, y, rfl, h1, h3⟩ := hvs
    have h1 : [x] = [_] := h1
    have h3 : y = [] := h3
    subst h3
    cases h1
    refine (wireInt_any n c.w hn).mono fun e w' h => ?_
    obtain ⟨v, rfl, ho, hbl⟩ := h
    exact ⟨hbl, _, _, rfl, ⟨rfl, rfl⟩, own_bytes hB ho⟩
theorem refInt_ok (n : Int) (hn : I64 n) : Ok Tryd.prog 30 [] [] (.pair (.int .i64 n) .nul) (fun r h' => r = bytesA true (Wire.int n) ∧ h' = []) :=
  Ok.of_calls fun c vs hc hB hg hvs => by
    obtain ⟨x, y, rfl, h1, h3⟩ := hvs
    have h1 : [x] = [_] := h1
    have h3 : y = [] := h3
    subst h3
    cases h1
    refine (refInt_any n c.w hn).mono fun e w' h => ?_
    obtain ⟨v, rfl, ho, hbl⟩ := h
    exact ⟨hbl, _, _, rfl, ⟨rfl, rfl⟩, own_bytes hB ho⟩
/-- A list of numbers, encoded. -/
def intsB (l : List Int) : List UInt8 := Wire.int l.length ++ l.flatMap Wire.int
def intsN (l : List Int) (k : Nat) : List UInt8 := Wire.int l.length ++ (l.take k).flatMap Wire.int
theorem intsN_zero (l : List Int) : intsN l 0 = Wire.int l.length := by simp [intsN]
theorem intsN_all (l : List Int) : intsN l l.length = intsB l := by simp [intsN, intsB]
theorem intsN_succ (l : List Int) (k : Nat) (h : k < l.length) : intsN l (k + 1) = intsN l k ++ Wire.int (l.getD k 0) := by
  simp [intsN, take_snoc (d := 0) h]
theorem intsN_len (l : List Int) : ∀ k, (intsN l k).length ≤ 9 + 9 * k
  | 0 => by rw [intsN_zero]; exact Wire.int_length _
  | k + 1 => by
    have ih := intsN_len l k
    rcases Nat.lt_or_ge k l.length with h | h
    · have := Wire.int_length (l.getD k 0)
      rw [intsN_succ l k h, List.length_append]; omega
    · have e : intsN l (k + 1) = intsN l k := by simp only [intsN]; rw [List.take_of_length_le (by omega), List.take_of_length_le h]
      rw [e]; omega
theorem viewT_bytes {H : Asc} {id n : Nat} {L : List UInt8} (h : get? H id = some (u8A n L)) (hn : L.length = n) : ViewT H (bytesA true L) (.sl id [] 1 0 n) := by
  subst hn
  exact ViewT.sl h rfl trivial (by omega) rfl fun i hi => ViewT.rel (by rw [Nat.zero_add]; exact rfl)
theorem wireInts_own (fr : Bool) (l : List Int) (hl : l.length ≤ 1000000000) (hI : ∀ i, I64 (l.getD i 0)) : Ok Tryd.prog 60 [] [] (.pair (.rsl fr l.length 1 (fun i => .int .i64 (l.getD i 0))) .nul) (fun r h' => r = .sl 0 [] 1 0 (intsB l).length ∧ h' = [(0, u8A (intsB l).length (intsB l))]) := by
  have c1 := wireInt_own l.length ⟨by omega, by omega⟩
  have hL : ∀ k, k < l.length → (intsN l k).length ≤ 100000000000 := fun k h => by have := intsN_len l k; omega
  refine Ok.of_vcC tt_ok Tryd.func60 rfl rfl (by show 1 ≤ _; decide) 0 (hlt_ok (by rfl)) fun c0 => ?_
  repeat' (first | (refine SS_ ?_) | (refine Seq.callo false [] [(0, 9)] (.sl 0 [] 1 0 (Wire.int l.length).length) ([(0, u8A (Wire.int l.length).length (Wire.int l.length))]) 1 (c1) Tryd.func26 GOk.nil subG.nil (by rfl) (by rfl) rfl rfl rfl rfl rfl (by rfl) rfl (by rfl) (by rfl) (by rfl) (by rfl) VW_ NI_ R_ (noFrL_ok NI_) BK_ ?_) | fail)
  refine VC.loop (fun k : Nat => ⟨[(11, .int .i64 (k : Nat)), (10, .int .i64 l.length), (9, .rsl fr l.length 1 (fun i => .int .i64 (l.getD i 0))), (3, .sl 0 [] 1 0 (intsN l k).length)], [(0, u8A (intsN l k).length (intsN l k))], [], 1⟩) (fun k => k ≤ l.length) (fun k => l.length - k) 0 (by omega) (by rw [intsN_zero]; exact (Sim.less [] (by rfl) R_ R_)) fun k hk => ?_
  by_cases hkl : k < l.length
  · have c2 := wireInt_ok (l.getD k 0) (hI k)
    have h1 := hL k hkl
    have h2 := Wire.int_length (l.getD k 0)
    have h3 := intsN_succ l k hkl
    generalize intsN l k = X at *
    generalize hY : intsN l (k + 1) = Y at *
    generalize hw : Wire.int (l.getD k 0) = w at *
    repeat' (first | (refine SS_ ?_) | (refine Seq.callq false (c2) Tryd.func26 GG_ SG_ (by rfl) rfl rfl rfl (by rfl) rfl VW_ NI_ NI_ FR_ ?_) | (refine VC.litT (by rfl) LTR_ ?_) | fail)
    refine ⟨k + 1, by omega, by omega, ?_⟩
    rw [hY, h3, List.length_append]
    (refine Sim.less [(0, 1)] (by rfl) ?_ ?_ <;> (repeat' (first | (exact EnvLe.nil) | (exact HeapLe.nil) | (with_reducible apply EnvLe.cons) | (with_reducible apply HeapLe.cons) | ((with_reducible refine RelA.int ?_; first | (refine Keep.mk ?_; first | with_reducible rfl | omega | decide) | skip)) | (exact rfl) | (exact ⟨rfl, rfl⟩) | ((with_reducible refine RelA.rsl ?_; intro i hi)) | ((refine RelA.arr ?_; intro i hi)) | fail)) <;> (try with_reducible refine Keep.mk ?_))
    exact RelA.of_eq (NoId.self trivial) (joinF_app rfl)
  · obtain rfl : k = l.length := by omega
    rw [intsN_all]
    generalize intsB l = Z at *
    repeat' (first | (refine SS_ ?_) | (refine VC.litF (by rfl) LFA_ ?_) | fail)
    (refine retC_mk ([(2, .sl 0 [] 1 0 Z.length)]) ([(0, u8A Z.length Z)]) 1 (Sim.less [] (by rfl) R_ R_) (retQ_ok (by rfl) ([(0, u8A Z.length Z)]) (fun i av h => h) ⟨?_, ?_⟩)) <;> rfl
theorem wireInts_ok (fr : Bool) (l : List Int) (hl : l.length ≤ 1000000000) (hI : ∀ i, I64 (l.getD i 0)) : Ok Tryd.prog 60 [] [] (.pair (.rsl fr l.length 1 (fun i => .int .i64 (l.getD i 0))) .nul) (fun r h' => r = bytesA true (intsB l) ∧ h' = []) :=
  (wireInts_own fr l hl hI).still fun r h' h => by
    obtain ⟨rfl, rfl⟩ := h
    exact ⟨_, viewT_bytes rfl rfl, rfl, rfl⟩
theorem refInts_own (fr : Bool) (l : List Int) (hl : l.length ≤ 1000000000) (hI : ∀ i, I64 (l.getD i 0)) : Ok Tryd.prog 63 [] [] (.pair (.rsl fr l.length 1 (fun i => .int .i64 (l.getD i 0))) .nul) (fun r h' => r = .sl 0 [] 1 0 (intsB l).length ∧ h' = [(0, u8A (intsB l).length (intsB l))]) := by
  have c1 := refInt_own l.length ⟨by omega, by omega⟩
  have hL : ∀ k, k < l.length → (intsN l k).length ≤ 100000000000 := fun k h => by have := intsN_len l k; omega
  refine Ok.of_vcC tt_ok Tryd.func63 rfl rfl (by show 1 ≤ _; decide) 0 (hlt_ok (by rfl)) fun c0 => ?_
  repeat' (first | (refine SS_ ?_) | (refine Seq.callo false [] [(0, 9)] (.sl 0 [] 1 0 (Wire.int l.length).length) ([(0, u8A (Wire.int l.length).length (Wire.int l.length))]) 1 (c1) Tryd.func30 GOk.nil subG.nil (by rfl) (by rfl) rfl rfl rfl rfl rfl (by rfl) rfl (by rfl) (by rfl) (by rfl) (by rfl) VW_ NI_ R_ (noFrL_ok NI_) BK_ ?_) | fail)
  refine VC.loop (fun k : Nat => ⟨[(4, .int .i64 (k : Nat)), (0, .rsl fr l.length 1 (fun i => .int .i64 (l.getD i 0))), (3, .sl 0 [] 1 0 (intsN l k).length)], [(0, u8A (intsN l k).length (intsN l k))], [], 1⟩) (fun k => k ≤ l.length) (fun k => l.length - k) 0 (by omega) (by rw [intsN_zero]; exact (Sim.less [] (by rfl) R_ R_)) fun k hk => ?_
  by_cases hkl : k < l.length
  · have c2 := refInt_ok (l.getD k 0) (hI k)
    have h1 := hL k hkl
    have h2 := Wire.int_length (l.getD k 0)
    have h3 := intsN_succ l k hkl
    generalize intsN l k = X at *
    generalize hY : intsN l (k + 1) = Y at *
    generalize hw : Wire.int (l.getD k 0) = w at *
    repeat' (first | (refine SS_ ?_) | (refine Seq.callq false (c2) Tryd.func30 GG_ SG_ (by rfl) rfl rfl rfl (by rfl) rfl VW_ NI_ NI_ FR_ ?_) | (refine VC.litT (by rfl) LTR_ ?_) | fail)
    refine ⟨k + 1, by omega, by omega, ?_⟩
    rw [hY, h3, List.length_append]
    (refine Sim.less [(0, 1)] (by rfl) ?_ ?_ <;> (repeat' (first | (exact EnvLe.nil) | (exact HeapLe.nil) | (with_reducible apply EnvLe.cons) | (with_reducible apply HeapLe.cons) | ((with_reducible refine RelA.int ?_; first | (refine Keep.mk ?_; first | with_reducible rfl | omega | decide) | skip)) | (exact rfl) | (exact ⟨rfl, rfl⟩) | ((with_reducible refine RelA.rsl ?_; intro i hi)) | ((refine RelA.arr ?_; intro i hi)) | fail)) <;> (try with_reducible refine Keep.mk ?_))
    exact RelA.of_eq (NoId.self trivial) (joinF_app rfl)
  · obtain rfl : k = l.length := by omega
    rw [intsN_all]
    generalize intsB l = Z at *
    repeat' (first | (refine SS_ ?_) | (refine VC.litF (by rfl) LFA_ ?_) | fail)
    (refine retC_mk ([(2, .sl 0 [] 1 0 Z.length)]) ([(0, u8A Z.length Z)]) 1 (Sim.less [] (by rfl) R_ R_) (retQ_ok (by rfl) ([(0, u8A Z.length Z)]) (fun i av h => h) ⟨?_, ?_⟩)) <;> rfl
theorem refInts_ok (fr : Bool) (l : List Int) (hl : l.length ≤ 1000000000) (hI : ∀ i, I64 (l.getD i 0)) : Ok Tryd.prog 63 [] [] (.pair (.rsl fr l.length 1 (fun i => .int .i64 (l.getD i 0))) .nul) (fun r h' => r = bytesA true (intsB l) ∧ h' = []) :=
  (refInts_own fr l hl hI).still fun r h' h => by
    obtain ⟨rfl, rfl⟩ := h
    exact ⟨_, viewT_bytes rfl rfl, rfl, rfl⟩
theorem sInts_ok (l : List Int) (hl : l.length ≤ 1000000000) (hI : ∀ i, I64 (l.getD i 0)) : Ok Tryd.prog 48 [] [] (.pair (liV l) .nul) (fun r h' => r = .str (intsB l) ∧ h' = []) := by
  have c1 := wireInts_ok false l hl hI
  generalize intsB l = Z at *
  refine Ok.of_vcC tt_ok Tryd.func48 rfl rfl (by show 1 ≤ _; decide) 0 (hlt_ok (by rfl)) fun c0 => ?_
  repeat' (first | (refine SS_ ?_) | (refine Seq.str (Z) tt_ok (by rfl) (by rfl) (by rfl) (by rfl) (by rfl) (by (first | exact trivial | exact u8_in _ rfl | exact u32_in _ rfl | ((with_reducible refine AllP.guard ?_); simp only [AllP, inI, fitV, maxK, inK, inbL, inb, List.append, List.cons_append, List.nil_append, true_and, and_true]; first | done | omega))) (by rfl) (.inl rfl) (by rfl) rfl (rfl) (fun i hi => by first | exact rfl | simp only [Nat.zero_add]) ?_) | (refine Seq.callq false (c1) Tryd.func60 GG_ SG_ (by rfl) rfl rfl rfl (by rfl) rfl VW_ NI_ NI_ FR_ ?_) | fail)
  (refine retC_mk ([(2, .str Z)]) ([]) 0 (Sim.less [] (by rfl) R_ R_) (retQ_ok (by rfl) ([]) (fun i av h => h) ⟨?_, ?_⟩)) <;> rfl
theorem rInts_ok (l : List Int) (hl : l.length ≤ 1000000000) (hI : ∀ i, I64 (l.getD i 0)) : Ok Tryd.prog 50 [] [] (.pair (liV l) .nul) (fun r h' => r = .str (intsB l) ∧ h' = []) := by
  have c1 := refInts_ok false l hl hI
  generalize intsB l = Z at *
  refine Ok.of_vcC tt_ok Tryd.func50 rfl rfl (by show 1 ≤ _; decide) 0 (hlt_ok (by rfl)) fun c0 => ?_
  repeat' (first | (refine SS_ ?_) | (refine Seq.str (Z) tt_ok (by rfl) (by rfl) (by rfl) (by rfl) (by rfl) (by (first | exact trivial | exact u8_in _ rfl | exact u32_in _ rfl | ((with_reducible refine AllP.guard ?_); simp only [AllP, inI, fitV, maxK, inK, inbL, inb, List.append, List.cons_append, List.nil_append, true_and, and_true]; first | done | omega))) (by rfl) (.inl rfl) (by rfl) rfl (rfl) (fun i hi => by first | exact rfl | simp only [Nat.zero_add]) ?_) | (refine Seq.callq false (c1) Tryd.func63 GG_ SG_ (by rfl) rfl rfl rfl (by rfl) rfl VW_ NI_ NI_ FR_ ?_) | fail)
  (refine retC_mk ([(2, .str Z)]) ([]) 0 (Sim.less [] (by rfl) R_ R_) (retQ_ok (by rfl) ([]) (fun i av h => h) ⟨?_, ?_⟩)) <;> rfl
end Go.Proofs.YthejnchhddggmaaDoor
