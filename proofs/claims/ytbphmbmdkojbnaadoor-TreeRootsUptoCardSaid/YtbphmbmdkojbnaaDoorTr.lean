
/- tree.Extends: the walk. -/
import Derived.Test.YtbphmbmdkojbnaaDoorTq
set_option linter.unusedSimpArgs false
set_option linter.unusedVariables false
namespace Go.Proofs.YtbphmbmdkojbnaaDoor
open Go.V Go.RowKit Go.U Go.L
def growA (X Y : List UInt8) (b : Bool) : AV := .pair (digA X) (.pair (digA Y) (.pair (.bool b) .nul))
def growZ : AV := .pair zA (.pair zA (.pair (.bool false) .nul))
def oldD (m : Nat) (L : List (List UInt8)) (a n s : Nat) : List UInt8 := Tree.old leafD nodeD [] zeroD m L a n s
theorem oldD_length (m : Nat) (L : List (List UInt8)) (hL : DOk L) : ∀ a n, 1 ≤ n → ∀ s, (oldD m L a n s).length = 16 := by
  refine Tree.ind (P := fun a n => ∀ s, (oldD m L a n s).length = 16) fun a n hn ih s => ?_
  show (Tree.old leafD nodeD [] zeroD m L a n s).length = 16
  by_cases h0 : a + n ≤ m ∨ m ≤ a
  · rw [Tree.old_out (hn := hn) (h := h0)]; exact hL.get s
  · have q1 := Tree.half_lt (n := n) (by omega)
    have q2 := Tree.half_pos (n := n) (by omega)
    rw [Tree.old_node (hn := hn) (h := h0)]
    split
    · exact ih a (Tree.half n) q2 q1 s
    · exact digD_length _ _
def argsE (m : Nat) (a b : Nat) : AV := .pair (.int .i64 (a : Nat)) (.pair (.int .i64 (b : Nat)) (.pair (.rptr false (.int .i64 (m : Nat))) (.pair (.rptr false (.ptr 0 [])) .nul)))
def fnExt (m : Nat) : AV := .fn (.func 48) .nul (.pair (.rptr false (.int .i64 (m : Nat))) (.pair (.rptr false (.ptr 0 [])) .nul))
def fnGrow : AV := .fn (.func 49) .nul .nul
set_option maxRecDepth 10000 in
theorem stopExt_no (m : Nat) (L : List (List UInt8)) (a n k : Nat) (h : ¬ (a + n ≤ m ∨ m ≤ a)) :
    Ok Tryd.prog 48 gK [(0, takerA L k)] (argsE m a (a + n)) (fun r h' => r = tA growZ false ∧ h' = [(0, takerA L k)]) := by
  refine Ok.of_vc tt_ok Tryd.func48 rfl rfl (by show 4 ≤ _; decide) 1 (hlt_ok (by rfl)) fun c0 => ?_
  refine S_ ?_
  refine Seq.same 12 (u' := .bool true) (by rfl) (congrArg AV.bool (decide_eq_true (by omega))) ?_
  refine S_ ?_
  refine VC.cond (by rfl) (fun hb => ?_) (fun hb => ?_) <;> (try simp only [decide_eq_true_eq, decide_eq_false_iff_not, Bool.not_eq_true', Bool.not_eq_false'] at hb) <;> (try (exfalso; omega))
  refine S_ ?_
  exact retQ_ok (by rfl) [(0, takerA L k)] (subL_ok ⟨rfl, trivial⟩) ⟨rfl, rfl⟩
set_option maxRecDepth 10000 in
theorem stopExt_out (m : Nat) (L : List (List UInt8)) (hL : DOk L) (a n k : Nat) (hn : 1 ≤ n) (hk : k ≤ 1099511627776) (h : a + n ≤ m ∨ m ≤ a) :
    Ok Tryd.prog 48 gK [(0, takerA L k)] (argsE m a (a + n)) (fun r h' => r = tA (growA (L.getD k zeroD) (L.getD k zeroD) (decide (a < m))) true ∧ h' = [(0, takerA L (k + 1))]) := by
  have c1 := take_ok L hL k hk
  generalize L.getD k zeroD = X at *
  refine Ok.of_vc tt_ok Tryd.func48 rfl rfl (by show 4 ≤ _; decide) 1 (hlt_ok (by rfl)) fun c0 => ?_
  refine S_ ?_
  refine Seq.join (X := Unit) (fun _ => ⟨[(16, .bool false), (7, .bool false), (6, .ptr 1 []), (3, .rptr false (.ptr 0 [])), (2, .rptr false (.int .i64 (m : Nat))), (1, .int .i64 ((a + n : Nat) : Int))], [(1, growZ), (0, takerA L k)], gK, 2⟩) (fun _ => True) ?_ fun _ _ => ?_
  · by_cases h1 : a + n ≤ m
    · refine Seq.same 12 (u' := .bool false) (by rfl) (congrArg AV.bool (decide_eq_false (by omega))) ?_
      refine S_ ?_
      refine ⟨(), trivial, ?_⟩
      refine Sim.less [] (by rfl) ?_ ?_ <;> (repeat' (first | exact EnvLe.nil | exact HeapLe.nil | with_reducible apply EnvLe.cons | with_reducible apply HeapLe.cons | (with_reducible refine RelA.int ?_; first | (refine Keep.mk ?_; first | with_reducible rfl | omega | decide) | skip) | exact rfl | exact ⟨rfl, rfl⟩ | (with_reducible refine RelA.rsl ?_; intro i hi) | (with_reducible refine RelA.arr ?_; intro i hi) | with_reducible refine RelA.pair ?_ ?_ | with_reducible refine RelA.rptr ?_ | (with_reducible refine RelA.rslw ?_; intro i hi) | (refine RelA.rsl ?_; intro i hi) | (refine RelA.rslw ?_; intro i hi) | (refine RelA.arr ?_; intro i hi) | refine RelA.pair ?_ ?_ | refine RelA.tup ?_ | ((first | refine RelA.rslL (by first | rfl | ((try simp only [List.length_take, List.length_drop, List.length_append, List.length_cons, List.length_nil, List.length_map, List.length_range]); omega)) ?_ | refine RelA.rslT (by first | rfl | ((try simp only [List.length_take, List.length_drop, List.length_append, List.length_cons, List.length_nil, List.length_map, List.length_range]); omega)) ?_ | refine RelA.arrL (by first | rfl | ((try simp only [List.length_take, List.length_drop, List.length_append, List.length_cons, List.length_nil, List.length_map, List.length_range]); omega)) ?_); intro i hi; (try simp only [List.length_take, List.length_drop] at hi); (try simp (disch := omega) only [getD_take, getD_drop, Nat.zero_add, Int.toNat_natCast])) | exact RelA.bif_int | refine RelA.fn ?_ ?_)) <;> (try with_reducible refine Keep.mk ?_)
    · refine Seq.same 12 (u' := .bool true) (by rfl) (congrArg AV.bool (decide_eq_true (by omega))) ?_
      refine S_ ?_
      refine ⟨(), trivial, ?_⟩
      rw [decide_eq_false (show ¬ (a : Int) < (m : Int) by omega)]
      refine Sim.less [] (by rfl) ?_ ?_ <;> (repeat' (first | exact EnvLe.nil | exact HeapLe.nil | with_reducible apply EnvLe.cons | with_reducible apply HeapLe.cons | (with_reducible refine RelA.int ?_; first | (refine Keep.mk ?_; first | with_reducible rfl | omega | decide) | skip) | exact rfl | exact ⟨rfl, rfl⟩ | (with_reducible refine RelA.rsl ?_; intro i hi) | (with_reducible refine RelA.arr ?_; intro i hi) | with_reducible refine RelA.pair ?_ ?_ | with_reducible refine RelA.rptr ?_ | (with_reducible refine RelA.rslw ?_; intro i hi) | (refine RelA.rsl ?_; intro i hi) | (refine RelA.rslw ?_; intro i hi) | (refine RelA.arr ?_; intro i hi) | refine RelA.pair ?_ ?_ | refine RelA.tup ?_ | ((first | refine RelA.rslL (by first | rfl | ((try simp only [List.length_take, List.length_drop, List.length_append, List.length_cons, List.length_nil, List.length_map, List.length_range]); omega)) ?_ | refine RelA.rslT (by first | rfl | ((try simp only [List.length_take, List.length_drop, List.length_append, List.length_cons, List.length_nil, List.length_map, List.length_range]); omega)) ?_ | refine RelA.arrL (by first | rfl | ((try simp only [List.length_take, List.length_drop, List.length_append, List.length_cons, List.length_nil, List.length_map, List.length_range]); omega)) ?_); intro i hi; (try simp only [List.length_take, List.length_drop] at hi); (try simp (disch := omega) only [getD_take, getD_drop, Nat.zero_add, Int.toNat_natCast])) | exact RelA.bif_int | refine RelA.fn ?_ ?_)) <;> (try with_reducible refine Keep.mk ?_)
  refine S_ ?_
  refine VC.cond (by rfl) (fun hb => ?_) (fun hb => ?_) <;> (try simp only [decide_eq_true_eq, decide_eq_false_iff_not, Bool.not_eq_true', Bool.not_eq_false'] at hb) <;> (try (exfalso; omega)) <;> (try (cases hb; done))
  refine S_ ?_
  refine Seq.callo false [] [] (digA X) ([(0, takerA L (k + 1))]) 2 (c1) Tryd.func42 gK_ok subG.nil (by rfl) (by rfl) rfl rfl rfl rfl rfl (by rfl) rfl (by rfl) (by rfl) (by rfl) (by rfl) VW_ NI_ R_ (noFrL_ok NI_) BK_ ?_
  refine S_ ?_
  have e1 : decide (((a + n : Nat) : Int) ≤ (m : Int)) = decide (a < m) := by
    rw [decide_eq_decide]; omega
  rw [e1]
  exact retQ_ok (by rfl) [(0, takerA L (k + 1))] (subL_ok ⟨rfl, trivial⟩) ⟨rfl, rfl⟩
set_option maxRecDepth 10000 in
theorem joinExt_ok (X Y X' Y' : List UInt8) (b b' : Bool) (h1 : X.length = 16) (h2 : Y.length = 16) (h3 : X'.length = 16) (h4 : Y'.length = 16) :
    Ok Tryd.prog 49 gK [] (.pair (growA X Y b) (.pair (growA X' Y' b') .nul)) (fun r h' => r = growA (nodeD X X') (bif b' then nodeD Y Y' else Y) b ∧ h' = []) := by
  refine Ok.of_vc tt_ok Tryd.func49 rfl rfl (by show 2 ≤ _; decide) 0 (fun i av h => by cases h) fun c0 => ?_
  refine S_ ?_
  refine VC.draw (mkP [(0, 0), (1, 1), (2, 0), (3, 4), (4, 15), (5, 0), (6, 32), (7, 0), (8, 128), (9, 511), (10, 0)]) [11] (by rfl) (by kernel_rfl) (by rfl) (by rfl) ?_
  refine D_ ?_
  refine DSeq.callp false (node_ok X X' h1 h3) Tryd.func44 gK_ok subG.refl (by rfl) (fastE (by rfl)) (fastH (by rfl)) (by rfl) (by rfl) rfl rfl rfl rfl rfl (by rfl) (by rfl) VW_ NI_ NI_ FR_ ?_
  refine D_ ?_
  refine S_ ?_
  cases b'
  · refine VC.cond (by rfl) (fun hb => ?_) (fun hb => ?_) <;> (try simp only [decide_eq_true_eq, decide_eq_false_iff_not, Bool.not_eq_true', Bool.not_eq_false'] at hb) <;> (try (exfalso; omega)) <;> (try (cases hb; done))
    refine S_ ?_
    exact retQ_ok (by rfl) [] nil_sub ⟨rfl, rfl⟩
  · refine VC.cond (by rfl) (fun hb => ?_) (fun hb => ?_) <;> (try simp only [decide_eq_true_eq, decide_eq_false_iff_not, Bool.not_eq_true', Bool.not_eq_false'] at hb) <;> (try (exfalso; omega)) <;> (try (cases hb; done))
    refine S_ ?_
    refine Seq.callp false (node_ok Y Y' h2 h4) Tryd.func44 gK_ok subG.refl (by rfl) (by rfl) rfl rfl rfl rfl rfl (by rfl) rfl VW_ NI_ NI_ FR_ ?_
    refine S_ ?_
    exact retQ_ok (by rfl) [] nil_sub ⟨rfl, rfl⟩
set_option maxRecDepth 10000 in
theorem walkExt_ok (m : Nat) (L : List (List UInt8)) (hL : DOk L) : ∀ a n, 1 ≤ n → a + n ≤ 1099511627776 → ∀ k, k + n ≤ 1099511627776 →
    Ok Tryd.prog 47 gK [(0, takerA L k)] (.pair (.int .i64 (a : Nat)) (.pair (.int .i64 ((a + n : Nat) : Int)) (.pair (fnExt m) (.pair fnGrow .nul)))) (fun r h' => r = growA (valD m m L [] a n k) (oldD m L a n k) (decide (a < m)) ∧ h' = [(0, takerA L (k + (Tree.steps m a n).length))]) := by
  unfold Tree.steps
  refine Tree.ind (P := fun a n => a + n ≤ 1099511627776 → ∀ k, k + n ≤ 1099511627776 → _) fun a n hn ih hal k hk => ?_
  refine Ok.of_vc tt_ok Tryd.func47 rfl rfl (by show 4 ≤ _; decide) 1 (hlt_ok (by rfl)) fun c0 => ?_
  by_cases h0 : a + n ≤ m ∨ m ≤ a
  · have c1 := stopExt_out m L hL a n k hn (by omega) h0
    have e1 : valD m m L [] a n k = L.getD k zeroD := Tree.val_out (hn := hn) (h := h0) ..
    have e2 : oldD m L a n k = L.getD k zeroD := Tree.old_out (hn := hn) (h := h0) ..
    rw [e1, e2, Tree.rest_out hn h0]
    generalize L.getD k zeroD = X at *
    generalize decide (a < m) = bb at *
    refine S_ ?_
    refine Seq.callo false [] [] (tA (growA X X bb) true) ([(0, takerA L (k + 1))]) 3 (c1) Tryd.func48 gK_ok subG.refl (by rfl) (by rfl) rfl rfl rfl rfl rfl (by rfl) rfl (by rfl) (by rfl) (by rfl) (by rfl) VW_ NI_ R_ (noFrL_ok NI_) BK_ ?_
    refine S_ ?_
    refine VC.cond (by rfl) (fun hb => ?_) (fun hb => ?_) <;> (try simp only [decide_eq_true_eq, decide_eq_false_iff_not, Bool.not_eq_true', Bool.not_eq_false'] at hb) <;> (try (exfalso; omega)) <;> (try (cases hb; done))
    refine S_ ?_
    exact retQ_ok (by rfl) [(0, takerA L (k + 1))] (subL_ok ⟨rfl, trivial⟩) ⟨rfl, rfl⟩
  have h1 : n ≠ 1 := by omega
  have q1 := Tree.half_lt (n := n) (by omega)
  have q2 := Tree.half_pos (n := n) (by omega)
  have e1 : (((a + n : Nat) : Int) - (a : Int)) = ((n : Nat) : Int) := by omega
  have c1 := stopExt_no m L a n k h0
  have c3 := half_ok n (by omega) (by omega)
  have r1 := rest_length m m a (Tree.half n) q2
  have i1 := ih a (Tree.half n) q2 q1 (by omega) k (by omega)
  have i2 := ih (a + Tree.half n) (n - Tree.half n) (by omega) (by omega) (by omega) (k + (Tree.rest m m a (Tree.half n)).length) (by omega)
  have d1 := valD_length m m L [] hL a (Tree.half n) k q2
  have d2 := valD_length m m L [] hL (a + Tree.half n) (n - Tree.half n) (k + (Tree.rest m m a (Tree.half n)).length) (by omega)
  have d3 := oldD_length m L hL a (Tree.half n) q2 k
  have d4 := oldD_length m L hL (a + Tree.half n) (n - Tree.half n) (by omega) (k + (Tree.rest m m a (Tree.half n)).length)
  have e2 : valD m m L [] a n k = nodeD (valD m m L [] a (Tree.half n) k) (valD m m L [] (a + Tree.half n) (n - Tree.half n) (k + (Tree.rest m m a (Tree.half n)).length)) := Tree.val_node (hn := by omega) (h := h0) ..
  have e3 : oldD m L a n k = bif decide (a + Tree.half n < m) then nodeD (oldD m L a (Tree.half n) k) (oldD m L (a + Tree.half n) (n - Tree.half n) (k + (Tree.rest m m a (Tree.half n)).length)) else oldD m L a (Tree.half n) k := by
    show Tree.old leafD nodeD [] zeroD m L a n k = _
    rw [Tree.old_join (hn := hn) (h := h0)]
    by_cases hc : a + Tree.half n < m
    · rw [if_pos hc, decide_eq_true hc]; rfl
    · rw [if_neg hc, decide_eq_false hc]; rfl
  rw [e2, e3, Tree.rest_node (by omega) h0, List.length_append, ← Nat.add_assoc]
  rw [show a + Tree.half n + (n - Tree.half n) = a + n by omega] at i2
  generalize k + (Tree.rest m m a (Tree.half n)).length = k1 at *
  generalize k1 + (Tree.rest m m (a + Tree.half n) (n - Tree.half n)).length = k2 at *
  generalize valD m m L [] a (Tree.half n) k = X at *
  generalize valD m m L [] (a + Tree.half n) (n - Tree.half n) k1 = X' at *
  generalize oldD m L a (Tree.half n) k = Y at *
  generalize oldD m L (a + Tree.half n) (n - Tree.half n) k1 = Y' at *
  generalize decide (a + Tree.half n < m) = b' at *
  generalize decide (a < m) = bb at *
  generalize Tree.half n = w at *
  refine S_ ?_
  refine Seq.callo false [] [] (tA growZ false) ([(0, takerA L k)]) 3 (c1) Tryd.func48 gK_ok subG.refl (by rfl) (by rfl) rfl rfl rfl rfl rfl (by rfl) rfl (by rfl) (by rfl) (by rfl) (by rfl) VW_ NI_ R_ (noFrL_ok NI_) BK_ ?_
  refine S_ ?_
  refine VC.cond (by rfl) (fun hb => ?_) (fun hb => ?_) <;> (try simp only [decide_eq_true_eq, decide_eq_false_iff_not, Bool.not_eq_true', Bool.not_eq_false'] at hb) <;> (try (exfalso; omega)) <;> (try (cases hb; done))
  refine S_ ?_
  rw [e1]
  refine Seq.callp false (c3) Tryd.func58 gK_ok subG.nil (by rfl) (by rfl) rfl rfl rfl rfl rfl (by rfl) rfl VW_ NI_ NI_ FR_ ?_
  refine S_ ?_
  refine Seq.callo false [] [] (growA X Y bb) ([(0, takerA L k1)]) 4 (i1) Tryd.func47 gK_ok subG.refl (by rfl) (by rfl) rfl rfl rfl rfl rfl (by rfl) rfl (by rfl) (by rfl) (by rfl) (by rfl) VW_ NI_ R_ (noFrL_ok NI_) BK_ ?_
  refine S_ ?_
  refine VC.drawM (mkP [(0, 0), (1, 0), (2, 0), (3, 0), (4, 12), (5, 0), (6, 0), (7, 0), (8, 252), (9, 511)]) [10] [0] (by rfl) (by kernel_rfl) (by rfl) (by rfl) (by rfl) (by rfl) ?_
  refine D_ ?_
  refine DSeq.callo false [] [] (growA X' Y' b') ([(0, takerA L k2)]) 5 (i2) Tryd.func47 gK_ok subG.refl (by rfl) (fastE (by rfl)) (fastH (by rfl)) (by rfl) (by rfl) (by rfl) rfl rfl rfl rfl rfl (by rfl) (by rfl) (by rfl) (by rfl) (by rfl) VW_ NI_ R_ (noFrL_ok NI_) BK_ ?_
  refine D_ ?_
  refine DSeq.callp false (joinExt_ok X Y X' Y' bb b' d1 d3 d2 d4) Tryd.func49 gK_ok subG.refl (by rfl) (fastE (by rfl)) (fastH (by rfl)) (by rfl) (by rfl) rfl rfl rfl rfl rfl (by rfl) (by rfl) VW_ NI_ NI_ FR_ ?_
  refine D_ ?_
  refine S_ ?_
  exact retQ_ok (by rfl) [(0, takerA L k2)] (subL_ok ⟨rfl, trivial⟩) ⟨rfl, rfl⟩
end Go.Proofs.YtbphmbmdkojbnaaDoor
