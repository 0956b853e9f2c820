
/- dioramaref39: joined, Check. -/
import Derived.Test.YtbphmbmdkojbnaaDoorTo
set_option linter.unusedSimpArgs false
set_option linter.unusedVariables false
namespace Go.Proofs.YtbphmbmdkojbnaaDoor
open Go.V Go.RowKit Go.U Go.L
def argsJ (a b : Nat) (R : List (Nat × Nat)) (L leaves : List (List UInt8)) (p : Nat) : AV := .pair (.int .i64 (a : Nat)) (.pair (.int .i64 (b : Nat)) (.pair (pairsV R) (.pair (digsV L) (.pair (strs leaves) (.pair (.int .i64 (p : Nat)) .nul)))))
theorem relA_digsV {A : Nat → Prop} {σ : Nat → Nat} {L : List (List UInt8)} : RelA A σ (digsV L) (digsV L) := NoId.self (a := digsV L) fun i hi j hj => trivial
theorem digsV_get {L : List (List UInt8)} {i : Nat} (h : i < L.length) : L.getD i zeroD = L.getD i [] := by
  rw [List.getD_eq_getElem?_getD, List.getD_eq_getElem?_getD, List.getElem?_eq_getElem h]; rfl
theorem Placed_lt {p q a n s : Nat} {R : List (Nat × Nat)} (h : Tree.Placed p q a n s R) (hn : 1 ≤ n) (h0 : a + n ≤ p ∨ q ≤ a) : s < R.length := by
  obtain ⟨pre, post, e, h2, _⟩ := h.split
  rw [e, Tree.rest_out hn h0]
  simp [← h2]
set_option maxRecDepth 10000 in
theorem joined_ok (p q : Nat) (R : List (Nat × Nat)) (L leaves : List (List UInt8)) (hL : DOk L) (hl : LOk leaves) (hR : R.length = L.length) (fr : Nat) (hfr : fr ≤ 1099511627776) (hf : p < q → fr = p ∧ q - p = leaves.length) : ∀ a n, 1 ≤ n → a + n ≤ 1099511627776 → ∀ s, Tree.Placed p q a n s R →
    Ok Tryd.prog 46 gR [] (argsJ a (a + n) R L leaves fr) (fun r h' => r = digA (valD p q L leaves a n s) ∧ h' = []) := by
  refine Tree.ind (P := fun a n => a + n ≤ 1099511627776 → ∀ s, Tree.Placed p q a n s R → _) fun a n hn ih hal s hs => ?_
  have hL1 := hL.1
  have cf := find_ok R (by omega) a (a + n)
  refine Ok.of_vc tt_ok Tryd.func46 rfl rfl (by show 6 ≤ _; decide) 0 (fun i av h => by cases h) fun c0 => ?_
  by_cases h0 : a + n ≤ p ∨ q ≤ a
  · have e1 : valD p q L leaves a n s = L.getD s zeroD := Tree.val_out (hn := hn) (h := h0) ..
    have hs2 := Placed_lt hs hn h0
    rw [e1, digsV_get (hR ▸ hs2)]
    rw [hs.find_out hn h0, show optI (some s) = ((s : Nat) : Int) from rfl] at cf
    rw [hR] at hs2
    refine S_ ?_
    refine Seq.callp false (cf) Tryd.func59 gR_ok subG.nil (by rfl) (by rfl) rfl rfl rfl rfl rfl (by rfl) rfl VW_ NI_ NI_ FR_ ?_
    refine S_ ?_
    refine VC.cond (by rfl) (fun hb => ?_) (fun hb => absurd (show (0 : Int) ≤ ((s : Nat) : Int) by omega) (of_decide_eq_false hb))
    refine S_ ?_
    exact retQ_ok (by rfl) [] nil_sub ⟨rfl, rfl⟩
  have e2 : ((a + n : Nat) : Int) - (a : Int) = (n : Int) := by omega
  rw [hs.find_in hn h0, show optI none = -1 from rfl] at cf
  by_cases h1 : n = 1
  · subst h1
    have e1 : valD p q L leaves a 1 s = leafD (leaves.getD (a - p) []) := Tree.val_one (h := h0) ..
    obtain ⟨f1, f2⟩ := hf (by omega)
    subst f1
    have e3 : ((a : Int) - (fr : Int)) = ((a - fr : Nat) : Int) := by omega
    have c1 := refLeaf_ok (leaves.getD (a - fr) []) (hl.get _)
    rw [e1]
    refine S_ ?_
    refine Seq.callp false (cf) Tryd.func59 gR_ok subG.nil (by rfl) (by rfl) rfl rfl rfl rfl rfl (by rfl) rfl VW_ NI_ NI_ FR_ ?_
    refine S_ ?_
    refine VC.cond (by rfl) (fun hb => ?_) (fun hb => ?_) <;> (try simp only [decide_eq_true_eq, decide_eq_false_iff_not, Bool.not_eq_true', Bool.not_eq_false'] at hb) <;> (try (exfalso; omega)) <;> (try (cases hb; done))
    refine S_ ?_
    refine VC.cond (by rfl) (fun hb => ?_) (fun hb => ?_) <;> (try simp only [decide_eq_true_eq, decide_eq_false_iff_not, Bool.not_eq_true', Bool.not_eq_false'] at hb) <;> (try (exfalso; omega))
    refine S_ ?_
    rw [e3]
    refine S_ ?_
    refine Seq.callp false (c1) Tryd.func29 gR_ok subG.refl (by rfl) (by rfl) rfl rfl rfl rfl rfl (by rfl) rfl VW_ NI_ NI_ FR_ ?_
    refine S_ ?_
    exact retQ_ok (by rfl) [] nil_sub ⟨rfl, rfl⟩
  have q1 := Tree.half_lt (n := n) (by omega)
  have q2 := Tree.half_pos (n := n) (by omega)
  have c3 := refHalf_ok n (by omega) (by omega)
  have i1 := ih a (Tree.half n) q2 q1 (by omega) s (hs.left (by omega) h0)
  have i2 := ih (a + Tree.half n) (n - Tree.half n) (by omega) (by omega) (by omega) _ (hs.right (by omega) h0)
  have d1 := valD_length p q L leaves hL a (Tree.half n) s q2
  have d2 := valD_length p q L leaves hL (a + Tree.half n) (n - Tree.half n) (s + (Tree.rest p q a (Tree.half n)).length) (by omega)
  have e1 : valD p q L leaves a n s = nodeD (valD p q L leaves a (Tree.half n) s) (valD p q L leaves (a + Tree.half n) (n - Tree.half n) (s + (Tree.rest p q a (Tree.half n)).length)) := Tree.val_node (hn := by omega) (h := h0) ..
  rw [e1]
  rw [show a + Tree.half n + (n - Tree.half n) = a + n by omega] at i2
  generalize valD p q L leaves (a + Tree.half n) (n - Tree.half n) (s + (Tree.rest p q a (Tree.half n)).length) = Y at *
  generalize valD p q L leaves a (Tree.half n) s = X at *
  generalize Tree.half n = m at *
  refine S_ ?_
  refine Seq.callp false (cf) Tryd.func59 gR_ok subG.nil (by rfl) (by rfl) rfl rfl rfl rfl rfl (by rfl) rfl VW_ NI_ NI_ FR_ ?_
  refine S_ ?_
  refine VC.cond (by rfl) (fun hb => ?_) (fun hb => ?_) <;> (try simp only [decide_eq_true_eq, decide_eq_false_iff_not, Bool.not_eq_true', Bool.not_eq_false'] at hb) <;> (try (exfalso; omega)) <;> (try (cases hb; done))
  refine S_ ?_
  refine VC.cond (by rfl) (fun hb => ?_) (fun hb => ?_) <;> (try simp only [decide_eq_true_eq, decide_eq_false_iff_not, Bool.not_eq_true', Bool.not_eq_false'] at hb) <;> (try (exfalso; omega))
  refine S_ ?_
  rw [e2]
  refine Seq.callp false (c3) Tryd.func30 gR_ok subG.nil (by rfl) (by rfl) rfl rfl rfl rfl rfl (by rfl) rfl VW_ NI_ NI_ FR_ ?_
  refine S_ ?_
  refine Seq.callp false (i1) Tryd.func46 gR_ok subG.refl (by rfl) (by rfl) rfl rfl rfl rfl rfl (by rfl) rfl VW_ NI_ NI_ FR_ ?_
  refine S_ ?_
  refine Seq.callp false (i2) Tryd.func46 gR_ok subG.refl (by rfl) (by rfl) rfl rfl rfl rfl rfl (by rfl) rfl VW_ NI_ NI_ FR_ ?_
  refine S_ ?_
  refine Seq.callp false (refNode_ok X Y d1 d2) Tryd.func31 gR_ok subG.refl (by rfl) (by rfl) rfl rfl rfl rfl rfl (by rfl) rfl VW_ NI_ NI_ FR_ ?_
  refine S_ ?_
  exact retQ_ok (by rfl) [] nil_sub ⟨rfl, rfl⟩
end Go.Proofs.YtbphmbmdkojbnaaDoor
