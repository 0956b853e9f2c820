
/- tree.Check: the walk, the function. -/
import Derived.Test.YtbphmbmdkojbnaaDoorTl
set_option linter.unusedSimpArgs false
set_option linter.unusedVariables false
namespace Go.Proofs.YtbphmbmdkojbnaaDoor
open Go.V Go.RowKit Go.U Go.L
def valD (p q : Nat) (L leaves : List (List UInt8)) (a n s : Nat) : List UInt8 := Tree.val leafD nodeD [] zeroD p q L leaves a n s
theorem valD_length (p q : Nat) (L leaves : List (List UInt8)) (hL : DOk L) (a n s : Nat) (hn : 1 ≤ n) : (valD p q L leaves a n s).length = 16 := by
  by_cases h0 : a + n ≤ p ∨ q ≤ a
  · show (Tree.val leafD nodeD [] zeroD p q L leaves a n s).length = 16
    rw [Tree.val_out (hn := hn) (h := h0)]; exact hL.get s
  by_cases h : n = 1
  · subst h
    show (Tree.val leafD nodeD [] zeroD p q L leaves a 1 s).length = 16
    rw [Tree.val_one (h := h0)]; exact digD_length _ _
  · show (Tree.val leafD nodeD [] zeroD p q L leaves a n s).length = 16
    rw [Tree.val_node (hn := by omega) (h := h0)]; exact digD_length _ _
def fnCheck (n0 : Int) (p q : Nat) (L leaves : List (List UInt8)) : AV := .fn (.func 41) .nul (.pair (.rptr false (proofV n0 p L)) (.pair (.rptr false (.int .i64 (q : Nat))) (.pair (.rptr false (.ptr 0 [])) (.pair (.rptr false (strs leaves)) .nul))))
set_option maxRecDepth 10000 in
theorem stopCheck_no (n0 : Int) (p q : Nat) (L leaves : List (List UInt8)) (a n k : Nat) (ha : a + n ≤ 1099511627776) (h : ¬ (a + n ≤ p ∨ q ≤ a)) (hn : n ≠ 1) :
    Ok Tryd.prog 41 gK [(0, takerA L k)] (argsC n0 p q L leaves a (a + n)) (fun r h' => r = tA zA false ∧ h' = [(0, takerA L k)]) := by
  refine Ok.of_vc tt_ok Tryd.func41 rfl rfl (by show 6 ≤ _; decide) 1 (hlt_ok (by rfl)) fun c0 => ?_
  refine S_ ?_
  refine Seq.same 15 (u' := .bool false) (by rfl) (congrArg AV.bool (decide_eq_false (by omega))) ?_
  refine S_ ?_
  refine VC.cond (by rfl) (fun hb => ?_) (fun hb => ?_) <;> (try simp only [decide_eq_true_eq, decide_eq_false_iff_not, Bool.not_eq_true', Bool.not_eq_false'] at hb) <;> (try (exfalso; omega))
  refine S_ ?_
  refine VC.cond (by rfl) (fun hb => ?_) (fun hb => ?_) <;> (try simp only [decide_eq_true_eq, decide_eq_false_iff_not, Bool.not_eq_true', Bool.not_eq_false'] at hb) <;> (try (exfalso; omega))
  refine S_ ?_
  exact retQ_ok (by rfl) [(0, takerA L k)] (subL_ok ⟨rfl, trivial⟩) ⟨rfl, rfl⟩
set_option maxRecDepth 10000 in
theorem walkCheck_ok (n0 : Int) (p q : Nat) (L leaves : List (List UInt8)) (hL : DOk L) (hl : LOk leaves) (hq : q - p = leaves.length) : ∀ a n, 1 ≤ n → a + n ≤ 1099511627776 → ∀ k, k + n ≤ 1099511627776 →
    Ok Tryd.prog 40 gK [(0, takerA L k)] (.pair (.int .i64 (a : Nat)) (.pair (.int .i64 ((a + n : Nat) : Int)) (.pair (fnCheck n0 p q L leaves) (.pair fnNode .nul)))) (fun r h' => r = digA (valD p q L leaves a n k) ∧ h' = [(0, takerA L (k + (Tree.rest p q a n).length))]) := by
  refine Tree.ind (P := fun a n => a + n ≤ 1099511627776 → ∀ k, k + n ≤ 1099511627776 → _) fun a n hn ih hal k hk => ?_
  refine Ok.of_vc tt_ok Tryd.func40 rfl rfl (by show 4 ≤ _; decide) 1 (hlt_ok (by rfl)) fun c0 => ?_
  by_cases h0 : a + n ≤ p ∨ q ≤ a
  · have c1 := stopCheck_out n0 p q L leaves hL a n k (by omega) h0
    have e1 : valD p q L leaves a n k = L.getD k zeroD := Tree.val_out (hn := hn) (h := h0) ..
    rw [e1, Tree.rest_out hn h0]
    generalize L.getD k zeroD = X at *
    refine S_ ?_
    refine Seq.callo false [] [] (tA (digA X) true) ([(0, takerA L (k + 1))]) 3 (c1) Tryd.func41 gK_ok subG.refl (by rfl) (by rfl) rfl rfl rfl rfl rfl (by rfl) rfl (by rfl) (by rfl) (by rfl) (by rfl) VW_ NI_ R_ (noFrL_ok NI_) BK_ ?_
    refine S_ ?_
    refine VC.cond (by rfl) (fun hb => ?_) (fun hb => ?_) <;> (try simp only [decide_eq_true_eq, decide_eq_false_iff_not, Bool.not_eq_true', Bool.not_eq_false'] at hb) <;> (try (exfalso; omega)) <;> (try (cases hb; done))
    refine S_ ?_
    exact retQ_ok (by rfl) [(0, takerA L (k + 1))] (subL_ok ⟨rfl, trivial⟩) ⟨rfl, rfl⟩
  by_cases h1 : n = 1
  · subst h1
    have c1 := stopCheck_one n0 p q L leaves hl a k h0 hq
    have e1 : valD p q L leaves a 1 k = leafD (leaves.getD (a - p) []) := Tree.val_one (h := h0) ..
    rw [e1, Tree.rest_one h0]
    generalize leafD (leaves.getD (a - p) []) = X at *
    refine S_ ?_
    refine Seq.callo false [] [] (tA (digA X) true) ([(0, takerA L k)]) 3 (c1) Tryd.func41 gK_ok subG.refl (by rfl) (by rfl) rfl rfl rfl rfl rfl (by rfl) rfl (by rfl) (by rfl) (by rfl) (by rfl) VW_ NI_ R_ (noFrL_ok NI_) BK_ ?_
    refine S_ ?_
    refine VC.cond (by rfl) (fun hb => ?_) (fun hb => ?_) <;> (try simp only [decide_eq_true_eq, decide_eq_false_iff_not, Bool.not_eq_true', Bool.not_eq_false'] at hb) <;> (try (exfalso; omega)) <;> (try (cases hb; done))
    refine S_ ?_
    exact retQ_ok (by rfl) [(0, takerA L k)] (subL_ok ⟨rfl, trivial⟩) ⟨rfl, rfl⟩
  have q1 := Tree.half_lt (n := n) (by omega)
  have q2 := Tree.half_pos (n := n) (by omega)
  have e1 : (((a + n : Nat) : Int) - (a : Int)) = ((n : Nat) : Int) := by omega
  have c1 := stopCheck_no n0 p q L leaves a n k hal h0 h1
  have c3 := half_ok n (by omega) (by omega)
  have r1 := rest_length p q a (Tree.half n) q2
  have i1 := ih a (Tree.half n) q2 q1 (by omega) k (by omega)
  have i2 := ih (a + Tree.half n) (n - Tree.half n) (by omega) (by omega) (by omega) (k + (Tree.rest p q a (Tree.half n)).length) (by omega)
  have d1 := valD_length p q L leaves hL a (Tree.half n) k q2
  have d2 := valD_length p q L leaves hL (a + Tree.half n) (n - Tree.half n) (k + (Tree.rest p q a (Tree.half n)).length) (by omega)
  have e2 : valD p q L leaves a n k = nodeD (valD p q L leaves a (Tree.half n) k) (valD p q L leaves (a + Tree.half n) (n - Tree.half n) (k + (Tree.rest p q a (Tree.half n)).length)) := Tree.val_node (hn := by omega) (h := h0) ..
  rw [e2, Tree.rest_node (by omega) h0, List.length_append, ← Nat.add_assoc]
  rw [show a + Tree.half n + (n - Tree.half n) = a + n by omega] at i2
  generalize k + (Tree.rest p q a (Tree.half n)).length = k1 at *
  generalize k1 + (Tree.rest p q (a + Tree.half n) (n - Tree.half n)).length = k2 at *
  generalize valD p q L leaves a (Tree.half n) k = X at *
  generalize valD p q L leaves (a + Tree.half n) (n - Tree.half n) k1 = Y at *
  generalize Tree.half n = m at *
  refine S_ ?_
  refine Seq.callo false [] [] (tA zA false) ([(0, takerA L k)]) 3 (c1) Tryd.func41 gK_ok subG.refl (by rfl) (by rfl) rfl rfl rfl rfl rfl (by rfl) rfl (by rfl) (by rfl) (by rfl) (by rfl) VW_ NI_ R_ (noFrL_ok NI_) BK_ ?_
  refine S_ ?_
  refine VC.cond (by rfl) (fun hb => ?_) (fun hb => ?_) <;> (try simp only [decide_eq_true_eq, decide_eq_false_iff_not, Bool.not_eq_true', Bool.not_eq_false'] at hb) <;> (try (exfalso; omega)) <;> (try (cases hb; done))
  refine S_ ?_
  rw [e1]
  refine Seq.callp false (c3) Tryd.func58 gK_ok subG.nil (by rfl) (by rfl) rfl rfl rfl rfl rfl (by rfl) rfl VW_ NI_ NI_ FR_ ?_
  refine S_ ?_
  refine Seq.callo false [] [] (digA X) ([(0, takerA L k1)]) 4 (i1) Tryd.func40 gK_ok subG.refl (by rfl) (by rfl) rfl rfl rfl rfl rfl (by rfl) rfl (by rfl) (by rfl) (by rfl) (by rfl) VW_ NI_ R_ (noFrL_ok NI_) BK_ ?_
  refine S_ ?_
  refine VC.drawM (mkP [(0, 0), (1, 0), (2, 0), (3, 0), (4, 12), (5, 0), (6, 0), (7, 0), (8, 252), (9, 511)]) [10] [0] (by rfl) (by kernel_rfl) (by rfl) (by rfl) (by rfl) (by rfl) ?_
  refine D_ ?_
  refine DSeq.callo false [] [] (digA Y) ([(0, takerA L k2)]) 5 (i2) Tryd.func40 gK_ok subG.refl (by rfl) (fastE (by rfl)) (fastH (by rfl)) (by rfl) (by rfl) (by rfl) rfl rfl rfl rfl rfl (by rfl) (by rfl) (by rfl) (by rfl) (by rfl) VW_ NI_ R_ (noFrL_ok NI_) BK_ ?_
  refine D_ ?_
  refine DSeq.callp false (node_ok X Y d1 d2) Tryd.func44 gK_ok subG.refl (by rfl) (fastE (by rfl)) (fastH (by rfl)) (by rfl) (by rfl) rfl rfl rfl rfl rfl (by rfl) (by rfl) VW_ NI_ NI_ FR_ ?_
  refine D_ ?_
  refine S_ ?_
  exact retQ_ok (by rfl) [(0, takerA L k2)] (subL_ok ⟨rfl, trivial⟩) ⟨rfl, rfl⟩
end Go.Proofs.YtbphmbmdkojbnaaDoor
