/- Lists of numbers; Around, At. Circulations: levels show the least cost, a set that blocks shows that there is none. Plain. -/
import Derived.Test.YtkpidpmlehkjbaaFq
import Derived.Test.YtkpidpmlehkjbaaTy
set_option linter.unusedSimpArgs false
set_option linter.unusedVariables false
namespace Go.Lx
open Go.V
theorem drop_step {α : Type} {l : List α} {k : Nat} {d : α} (h : k < l.length) : l.drop k = l.getD k d :: l.drop (k + 1) := by
  rw [List.drop_eq_getElem_cons h, List.getD_eq_getElem?_getD, List.getElem?_eq_getElem h]; rfl
theorem take_snoc {α : Type} {l : List α} {k : Nat} {d : α} (h : k < l.length) : l.take (k + 1) = l.take k ++ [l.getD k d] := by
  rw [List.take_add_one, List.getD_eq_getElem?_getD, List.getElem?_eq_getElem h]; rfl
theorem app_lt {α : Type} {l m : List α} {d : α} {i : Nat} (h : i < l.length) : (l ++ m).getD i d = l.getD i d := by
  rw [List.getD_eq_getElem?_getD, List.getD_eq_getElem?_getD, List.getElem?_append_left h]
theorem app_eq {α : Type} {l : List α} {x d : α} : (l ++ [x]).getD l.length d = x := by
  rw [List.getD_eq_getElem?_getD, List.getElem?_append_right (Nat.le_refl _), Nat.sub_self]; rfl
theorem set_get {α : Type} {l : List α} {k : Nat} {v d : α} (h : k < l.length) : (l.set k v).getD k d = v := by
  rw [List.getD_eq_getElem?_getD, List.getElem?_set, if_pos rfl, if_pos h]; rfl
theorem set_ne {α : Type} {l : List α} {k j : Nat} {v d : α} (h : j ≠ k) : (l.set k v).getD j d = l.getD j d := by
  rw [List.getD_eq_getElem?_getD, List.getElem?_set, if_neg (Ne.symm h), ← List.getD_eq_getElem?_getD]
theorem getD_mem {α : Type} {l : List α} {k : Nat} {d : α} (h : k < l.length) : l.getD k d ∈ l := by
  rw [List.getD_eq_getElem?_getD, List.getElem?_eq_getElem h]; exact List.getElem_mem _
theorem mem_getD {α : Type} {l : List α} {x d : α} : x ∈ l ↔ ∃ j, j < l.length ∧ l.getD j d = x := by
  rw [List.mem_iff_getElem]
  constructor
  · rintro ⟨j, hj, h⟩
    exact ⟨j, hj, by rw [List.getD_eq_getElem?_getD, List.getElem?_eq_getElem hj]; exact h⟩
  · rintro ⟨j, hj, h⟩
    rw [List.getD_eq_getElem?_getD, List.getElem?_eq_getElem hj] at h
    exact ⟨j, hj, h⟩
/-- Where the first element is for which a test holds; -1: nowhere. -/
def idx {α : Type} (q : α → Bool) (k : Nat) : List α → Int
  | [] => -1
  | v :: r => if q v = true then (k : Int) else idx q (k + 1) r
theorem idx_step {α : Type} {q : α → Bool} {l : List α} {k : Nat} {d : α} (h : k < l.length) : idx q k (l.drop k) = if q (l.getD k d) = true then (k : Int) else idx q (k + 1) (l.drop (k + 1)) := by
  rw [drop_step (d := d) h, idx]
theorem idx_any {α : Type} {q : α → Bool} : ∀ {l : List α} {k : Nat}, decide (0 ≤ idx q k l) = l.any q
  | [], k => by rw [idx]; rfl
  | v :: r, k => by
    rw [idx, List.any_cons]
    cases hq : q v with
    | true => simp
    | false => simpa using idx_any (q := q) (l := r) (k := k + 1)
def absI (n : Int) : Int := if n < 0 then -(n + 1) else n
def aroundI (n m : Int) : Int := if m < 1 then 0 else absI n % m
theorem around_lt (n m : Int) (h : 1 ≤ m) : 0 ≤ aroundI n m ∧ aroundI n m < m := by
  unfold aroundI
  rw [if_neg (by omega)]
  exact ⟨Int.emod_nonneg _ (by omega), Int.emod_lt_of_pos _ (by omega)⟩
def atI (l : List Int) (i : Int) (m : Int) : Int := if i < 0 ∨ (l.length : Int) ≤ i then 0 else aroundI (l.getD i.toNat 0) m
theorem at_lt (l : List Int) (i : Int) (m : Int) (h : 1 ≤ m) : 0 ≤ atI l i m ∧ atI l i m < m := by
  unfold atI
  split
  · omega
  · exact around_lt _ _ h
def I64 (n : Int) : Prop := -9223372036854775808 ≤ n ∧ n ≤ 9223372036854775807
def IOk (l : List Int) : Prop := l.length ≤ 9223372036854775807 ∧ ∀ x ∈ l, -9223372036854775808 ≤ x ∧ x ≤ 9223372036854775807
theorem IOk.get {l : List Int} (h : IOk l) (i : Nat) : -9223372036854775808 ≤ l.getD i 0 ∧ l.getD i 0 ≤ 9223372036854775807 := by
  rcases Nat.lt_or_ge i l.length with hi | hi
  · rw [List.getD_eq_getElem?_getD, List.getElem?_eq_getElem hi]; exact h.2 _ (List.getElem_mem hi)
  · rw [List.getD_eq_getElem?_getD, List.getElem?_eq_none hi]; exact ⟨by decide, by decide⟩
end Go.Lx
namespace Go.V
open Go.Lx
/-- A list of numbers: read-only, own. -/
abbrev liV (l : List Int) : AV := .rsl false l.length 1 (fun i => .int .i64 (l.getD i 0))
abbrev liO (l : List Int) : AV := .arr l.length 1 (fun i => .int .i64 (l.getD i 0))
theorem rel_snocG {A : Nat → Prop} {σ : Nat → Nat} {α : Type} {G : α → AV} {d : α} (hG : ∀ e, NoId (G e)) {o : List α} {x : α} {K : Nat → AV} {i : Nat} (hi : i < o.length + 1) (hK : K 0 = G x := by rfl) : RelA A σ (G ((o ++ [x]).getD i d)) (joinF o.length (fun i => G (o.getD i d)) K i) := by
  rcases Nat.lt_or_ge i o.length with h1 | h1
  · rw [joinF_lt h1, app_lt h1]; exact NoId.self (hG _)
  · obtain rfl : i = o.length := by omega
    rw [joinF_ge (Nat.le_refl _), app_eq, Nat.sub_self, hK]; exact NoId.self (hG _)
theorem rel_setG {A : Nat → Prop} {σ : Nat → Nat} {α : Type} {G : α → AV} {d : α} (hG : ∀ e, NoId (G e)) {o : List α} {x : α} {k i : Nat} {u : AV} (hk : k < o.length) (hu : u = G x) : RelA A σ (G ((o.set k x).getD i d)) (bif Nat.beq i (0 + k) then u else G (o.getD i d)) := by
  by_cases h : i = k
  · rw [bif_eq (show i = 0 + k by omega), h, set_get hk, hu]; exact NoId.self (hG _)
  · rw [bif_ne (show i ≠ 0 + k by omega), set_ne h]; exact NoId.self (hG _)
end Go.V
namespace Go.Proofs.Ytkpidpmlehkjbaa
open Go.V Go.RowKit Go.L Go.Lx
set_option maxRecDepth 10000
set_option maxHeartbeats 2000000
theorem lAround_ok (n m : Int) (hn : I64 n) : Ok Try.prog 12 [] [] (.pair (.int .i64 n) (.pair (.int .i64 m) .nul)) (fun r h' => r = .int .i64 (aroundI n m) ∧ h' = []) := by
  obtain ⟨n1, n2⟩ := hn
  unfold aroundI absI
  by_cases hneg : n < 0
  · rw [if_pos hneg]
    by_cases hm : m < 1
    · rw [if_pos hm]
      refine Ok.of_vcC tt_ok Try.func12 rfl rfl (by show 2 ≤ _; decide) 0 (hlt_ok (by rfl)) fun c0 => ?_
      repeat' (first | (refine SS_ ?_) | (refine VC.litT (by rfl) LTR_ ?_) | fail)
      (refine retC_mk ([(4, .int .i64 0)]) ([]) 0 (Sim.less [] (by rfl) R_ R_) (retQ_ok (by rfl) ([]) (fun i av h => h) ⟨?_, ?_⟩)) <;> rfl
    · rw [if_neg hm]
      refine Ok.of_vcC tt_ok Try.func12 rfl rfl (by show 2 ≤ _; decide) 0 (hlt_ok (by rfl)) fun c0 => ?_
      repeat' (first | (refine SS_ ?_) | (refine VC.litT (by rfl) LTR_ ?_) | (refine VC.litF (by rfl) LFA_ ?_) | fail)
      (refine retC_mk ([(4, .int .i64 ((0 - (n + 1)) % m))]) ([]) 0 (Sim.less [] (by rfl) R_ R_) (retQ_ok (by rfl) ([]) (fun i av h => h) ⟨?_, ?_⟩)) <;> first | rfl | (rw [Int.zero_sub])
  · rw [if_neg hneg]
    by_cases hm : m < 1
    · rw [if_pos hm]
      refine Ok.of_vcC tt_ok Try.func12 rfl rfl (by show 2 ≤ _; decide) 0 (hlt_ok (by rfl)) fun c0 => ?_
      repeat' (first | (refine SS_ ?_) | (refine VC.litT (by rfl) LTR_ ?_) | (refine VC.litF (by rfl) LFA_ ?_) | fail)
      (refine retC_mk ([(4, .int .i64 0)]) ([]) 0 (Sim.less [] (by rfl) R_ R_) (retQ_ok (by rfl) ([]) (fun i av h => h) ⟨?_, ?_⟩)) <;> rfl
    · rw [if_neg hm]
      refine Ok.of_vcC tt_ok Try.func12 rfl rfl (by show 2 ≤ _; decide) 0 (hlt_ok (by rfl)) fun c0 => ?_
      repeat' (first | (refine SS_ ?_) | (refine VC.litF (by rfl) LFA_ ?_) | fail)
      (refine retC_mk ([(4, .int .i64 (n % m))]) ([]) 0 (Sim.less [] (by rfl) R_ R_) (retQ_ok (by rfl) ([]) (fun i av h => h) ⟨?_, ?_⟩)) <;> rfl
theorem lAt_ok (l : List Int) (hl : IOk l) (i m : Int) : Ok Try.prog 26 [] [] (.pair (liV l) (.pair (.int .i64 i) (.pair (.int .i64 m) .nul))) (fun r h' => r = .int .i64 (atI l i m) ∧ h' = []) := by
  have hl1 := hl.1
  have c1 := lAround_ok (l.getD i.toNat 0) m (hl.get _)
  unfold atI
  by_cases h : i < 0 ∨ (l.length : Int) ≤ i
  · rw [if_pos h]
    refine Ok.of_vcC tt_ok Try.func26 rfl rfl (by show 3 ≤ _; decide) 0 (hlt_ok (by rfl)) fun c0 => ?_
    repeat' (first | (refine SS_ ?_) | (refine VC.litT (by rfl) LTR_ ?_) | (refine Seq.litC (by rfl) (by rfl) (fun hb => ?_) (fun hb => ?_) <;> (fail_if_success (with_reducible have := litT_ hb)) <;> (fail_if_success (with_reducible have := litF_ hb)) <;> (try simp only [HB_] at hb) <;> (try (exfalso; first | omega | (cases hb; done)))) | fail)
    all_goals ((refine retC_mk ([(6, .int .i64 0)]) ([]) 0 (Sim.less [] (by rfl) R_ R_) (retQ_ok (by rfl) ([]) (fun i av h => h) ⟨?_, ?_⟩)) <;> rfl)
  · rw [if_neg h]
    generalize aroundI (l.getD i.toNat 0) m = z at *
    refine Ok.of_vcC tt_ok Try.func26 rfl rfl (by show 3 ≤ _; decide) 0 (hlt_ok (by rfl)) fun c0 => ?_
    repeat' (first | (refine SS_ ?_) | (refine Seq.callp false (c1) Try.func12 GOk.nil subG.nil (by rfl) (by rfl) rfl rfl rfl rfl rfl (by rfl) rfl VW_ NI_ NI_ FR_ ?_) | (refine Seq.lit (by rfl) (by rfl) LT2_ ?_) | (refine VC.litF (by rfl) LFA_ ?_) | fail)
    (refine retC_mk ([(6, .int .i64 z)]) ([]) 0 (Sim.less [] (by rfl) R_ R_) (retQ_ok (by rfl) ([]) (fun i av h => h) ⟨?_, ?_⟩)) <;> rfl
end Go.Proofs.Ytkpidpmlehkjbaa

namespace Go.Fl
/-- An edge. -/
structure Ed where
  (a b lo hi c : Int)
/-- How much more flows to a node than away from it. -/
def bal : List Ed → List Int → Int → Int
  | e :: l, f :: F, v => (if e.b = v then f else 0) - (if e.a = v then f else 0) + bal l F v
  | _, _, _ => 0
def cost : List Ed → List Int → Int
  | e :: l, f :: F => f * e.c + cost l F
  | _, _ => 0
/-- What levels add to a cost. -/
def pot (L : Int → Int) : List Ed → List Int → Int
  | e :: l, f :: F => f * (L e.a - L e.b) + pot L l F
  | _, _ => 0
def sumN (g : Nat → Int) : Nat → Int
  | 0 => 0
  | n + 1 => sumN g n + g n
theorem sumN_add (g h : Nat → Int) : ∀ n, sumN (fun v => g v + h v) n = sumN g n + sumN h n
  | 0 => rfl
  | n + 1 => by rw [sumN, sumN_add g h n, sumN, sumN]; omega
theorem sumN_zero {g : Nat → Int} : ∀ {n : Nat}, (∀ v, v < n → g v = 0) → sumN g n = 0
  | 0, _ => rfl
  | n + 1, h => by rw [sumN, sumN_zero (fun v hv => h v (by omega)), h n (by omega)]; rfl
theorem sumN_congr {g h : Nat → Int} : ∀ {n : Nat}, (∀ v, v < n → g v = h v) → sumN g n = sumN h n
  | 0, _ => rfl
  | n + 1, H => by rw [sumN, sumN, sumN_congr (fun v hv => H v (by omega)), H n (by omega)]
theorem sumN_one (g : Int → Int) (f x : Int) : ∀ n : Nat, 0 ≤ x → x < n → sumN (fun v => g v * (if x = (v : Int) then f else 0)) n = g x * f
  | 0, h0, h1 => by omega
  | n + 1, h0, h1 => by
    rw [sumN]
    by_cases h : x = (n : Int)
    · rw [sumN_zero (fun v hv => by rw [if_neg (by omega), Int.mul_zero])]
      rw [if_pos h, ← h, Int.zero_add]
    · rw [sumN_one g f x n h0 (by omega)]
      rw [if_neg h, Int.mul_zero, Int.add_zero]
def nodes (n : Nat) (l : List Ed) : Prop := ∀ e ∈ l, 0 ≤ e.a ∧ e.a < n ∧ 0 ≤ e.b ∧ e.b < n
theorem pot_sum (L : Int → Int) (n : Nat) : ∀ (l : List Ed) (F : List Int), nodes n l → sumN (fun v => L v * bal l F v) n = - pot L l F
  | [], F, _ => by rw [sumN_zero (fun v _ => by simp [bal])]; rfl
  | e :: l, [], _ => by rw [sumN_zero (fun v _ => by simp [bal])]; rfl
  | e :: l, f :: F, h => by
    obtain ⟨h1, h2, h3, h4⟩ := h e (by simp)
    have ih := pot_sum L n l F (fun x hx => h x (by simp [hx]))
    have e1 := sumN_one L f e.b n h3 h4
    have e2 := sumN_one L f e.a n h1 h2
    have e3 : sumN (fun v => L v * bal (e :: l) (f :: F) v) n = sumN (fun v => (L v * (if e.b = (v : Int) then f else 0) + -1 * (L v * (if e.a = (v : Int) then f else 0))) + L v * bal l F v) n := sumN_congr fun v _ => by
      rw [bal, Int.mul_add, Int.mul_sub]; omega
    rw [e3, sumN_add, sumN_add, ih, e1, pot]
    have e4 : ∀ m, sumN (fun v => -1 * (L v * (if e.a = (v : Int) then f else 0))) m = - sumN (fun v => L v * (if e.a = (v : Int) then f else 0)) m := fun m => by
      induction m with
      | zero => rfl
      | succ m ih => rw [sumN, sumN, ih]; omega
    rw [e4, e2, Int.mul_sub, Int.mul_comm f (L e.a), Int.mul_comm f (L e.b)]
    omega
/-- A circulation. -/
def circ (n : Nat) (l : List Ed) (F : List Int) : Prop := ∀ v : Nat, v < n → bal l F v = 0
def inB : List Ed → List Int → Prop
  | e :: l, f :: F => e.lo ≤ f ∧ f ≤ e.hi ∧ inB l F
  | [], [] => True
  | _, _ => False
/-- Levels show that a flow costs the least. -/
def slack (L : Int → Int) : List Ed → List Int → Prop
  | e :: l, f :: F => (e.c + L e.a - L e.b < 0 → e.hi ≤ f) ∧ (0 < e.c + L e.a - L e.b → f ≤ e.lo) ∧ slack L l F
  | _, _ => True
theorem pot_circ {L : Int → Int} {n : Nat} {l : List Ed} {F : List Int} (hn : nodes n l) (hc : circ n l F) : pot L l F = 0 := by
  have h := pot_sum L n l F hn
  rw [sumN_zero (fun v hv => by rw [hc v hv, Int.mul_zero])] at h
  omega
theorem cost_step {f g lo hi x : Int} (h1 : lo ≤ g) (h2 : g ≤ hi) (h3 : x < 0 → hi ≤ f) (h4 : 0 < x → f ≤ lo) : f * x ≤ g * x := by
  rcases Int.lt_trichotomy x 0 with h | h | h
  · exact Int.mul_le_mul_of_nonpos_right (by have := h3 h; omega) (by omega)
  · rw [h, Int.mul_zero, Int.mul_zero]; exact Int.le_refl 0
  · exact Int.mul_le_mul_of_nonneg_right (by have := h4 h; omega) (by omega)
theorem red_le {L : Int → Int} : ∀ {l : List Ed} {F G : List Int}, inB l F → inB l G → slack L l F → cost l F + pot L l F ≤ cost l G + pot L l G
  | [], [], [], _, _, _ => Int.le_refl _
  | e :: l, f :: F, g :: G, hF, hG, hs => by
    have ih := red_le hF.2.2 hG.2.2 hs.2.2
    have := cost_step (x := e.c + L e.a - L e.b) hG.1 hG.2.1 hs.1 hs.2.1
    rw [cost, cost, pot, pot]
    have d : ∀ y : Int, y * (e.c + L e.a - L e.b) = y * e.c + y * (L e.a - L e.b) := fun y => by rw [← Int.mul_add]; congr 1; omega
    rw [d, d] at this
    omega
  | [], _ :: _, _, hF, _, _ => hF.elim
  | [], [], _ :: _, _, hG, _ => hG.elim
  | _ :: _, [], _, hF, _, _ => hF.elim
  | _ :: _, _ :: _, [], _, hG, _ => hG.elim
theorem least {L : Int → Int} {n : Nat} {l : List Ed} {F G : List Int} (hn : nodes n l) (hF : inB l F) (hc : circ n l F) (hs : slack L l F) (hG : inB l G) (hd : circ n l G) : cost l F ≤ cost l G := by
  have := red_le hF hG hs
  rw [pot_circ hn hc, pot_circ hn hd] at this
  omega
/-- How much more has to flow into a set than can flow out of it. -/
def over (S : Int → Bool) : List Ed → Int
  | e :: l => (if S e.b && !S e.a then e.lo else 0) - (if S e.a && !S e.b then e.hi else 0) + over S l
  | [] => 0
theorem over_le {S : Int → Bool} : ∀ {l : List Ed} {F : List Int}, inB l F → over S l ≤ - pot (fun v => if S v then 1 else 0) l F
  | [], [], _ => Int.le_refl _
  | e :: l, f :: F, h => by
    have ih := over_le (S := S) h.2.2
    obtain ⟨h1, h2, _⟩ := h
    rw [over, pot]
    cases S e.a <;> cases S e.b <;> simp <;> omega
  | [], _ :: _, h => h.elim
  | _ :: _, [], h => h.elim
/-- A set that blocks: there is no circulation. -/
theorem blocked {S : Int → Bool} {n : Nat} {l : List Ed} (hn : nodes n l) (ho : 0 < over S l) {F : List Int} (hF : inB l F) (hc : circ n l F) : False := by
  have := over_le (S := S) hF
  rw [pot_circ hn hc] at this
  omega
end Go.Fl
