
/- dioramaref39.Extends; both. -/
import Derived.Test.YtbphmbmdkojbnaaDoorTs
set_option linter.unusedSimpArgs false
set_option linter.unusedVariables false
namespace Go.Proofs.YtbphmbmdkojbnaaDoor
open Go.V Go.RowKit Go.U Go.L
theorem lOk_nil : LOk [] := ⟨by decide, fun x hx => by cases hx⟩
set_option maxRecDepth 10000 in
theorem refOld_ok (m : Nat) (hm : m ≤ 1099511627776) (R : List (Nat × Nat)) (L : List (List UInt8)) (hL : DOk L) (hR : R.length = L.length) : ∀ a n, 1 ≤ n → a + n ≤ 1099511627776 → ∀ s, Tree.Placed m m a n s R →
    Ok Tryd.prog 50 gR [] (.pair (.int .i64 (a : Nat)) (.pair (.int .i64 ((a + n : Nat) : Int)) (.pair (.int .i64 (m : Nat)) (.pair (pairsV R) (.pair (digsV L) .nul))))) (fun r h' => r = digA (oldD m L a n s) ∧ h' = []) := by
  refine Tree.ind (P := fun a n => a + n ≤ 1099511627776 → ∀ s, Tree.Placed m m a n s R → _) fun a n hn ih hal s hs => ?_
  have hL1 := hL.1
  have cf := find_ok R (by omega) a (a + n)
  refine Ok.of_vc tt_ok Tryd.func50 rfl rfl (by show 5 ≤ _; decide) 0 (fun i av h => by cases h) fun c0 => ?_
  by_cases h0 : a + n ≤ m ∨ m ≤ a
  · have e1 : oldD m L a n s = L.getD s zeroD := Tree.old_out (hn := hn) (h := h0) ..
    have hs2 := Placed_lt hs hn h0
    rw [hs.find_out hn h0, show optI (some s) = ((s : Nat) : Int) from rfl] at cf
    rw [hR] at hs2
    rw [e1, digsV_get hs2]
    refine S_ ?_
    refine Seq.callp false (cf) Tryd.func59 gR_ok subG.nil (by rfl) (by rfl) rfl rfl rfl rfl rfl (by rfl) rfl VW_ NI_ NI_ FR_ ?_
    refine S_ ?_
    refine VC.cond (by rfl) (fun hb => ?_) (fun hb => absurd (show (0 : Int) ≤ ((s : Nat) : Int) by omega) (of_decide_eq_false hb))
    refine S_ ?_
    exact retQ_ok (by rfl) [] nil_sub ⟨rfl, rfl⟩
  have e2 : ((a + n : Nat) : Int) - (a : Int) = (n : Int) := by omega
  rw [hs.find_in hn h0, show optI none = -1 from rfl] at cf
  have q1 := Tree.half_lt (n := n) (by omega)
  have q2 := Tree.half_pos (n := n) (by omega)
  have c3 := refHalf_ok n (by omega) (by omega)
  have hsl := hs.left (by omega) h0
  have hsr := hs.right (by omega) h0
  have i1 := ih a (Tree.half n) q2 q1 (by omega) s hsl
  have i2 := ih (a + Tree.half n) (n - Tree.half n) (by omega) (by omega) (by omega) _ hsr
  have j1 := joined_ok m m R L [] hL lOk_nil hR 0 (by omega) (fun e => by omega) a (Tree.half n) q2 (by omega) s hsl
  have d1 := valD_length m m L [] hL a (Tree.half n) s q2
  have d2 := oldD_length m L hL (a + Tree.half n) (n - Tree.half n) (by omega) (s + (Tree.rest m m a (Tree.half n)).length)
  have e1 : oldD m L a n s = if m ≤ a + Tree.half n then oldD m L a (Tree.half n) s else nodeD (valD m m L [] a (Tree.half n) s) (oldD m L (a + Tree.half n) (n - Tree.half n) (s + (Tree.rest m m a (Tree.half n)).length)) := Tree.old_node (hn := hn) (h := h0) ..
  rw [e1]
  rw [show a + Tree.half n + (n - Tree.half n) = a + n by omega] at i2
  clear e1 hsl hsr ih
  generalize oldD m L (a + Tree.half n) (n - Tree.half n) (s + (Tree.rest m m a (Tree.half n)).length) = Y at *
  generalize valD m m L [] a (Tree.half n) s = X at *
  generalize oldD m L a (Tree.half n) s = Z at *
  generalize Tree.half n = w at *
  refine S_ ?_
  refine Seq.callp false (cf) Tryd.func59 gR_ok subG.nil (by rfl) (by rfl) rfl rfl rfl rfl rfl (by rfl) rfl VW_ NI_ NI_ FR_ ?_
  refine S_ ?_
  refine VC.cond (by rfl) (fun hb => ?_) (fun hb => ?_) <;> (try simp only [decide_eq_true_eq, decide_eq_false_iff_not, Bool.not_eq_true', Bool.not_eq_false'] at hb) <;> (try (exfalso; omega)) <;> (try (cases hb; done))
  refine S_ ?_
  rw [e2]
  refine Seq.callp false (c3) Tryd.func30 gR_ok subG.nil (by rfl) (by rfl) rfl rfl rfl rfl rfl (by rfl) rfl VW_ NI_ NI_ FR_ ?_
  refine S_ ?_
  refine VC.cond (by rfl) (fun hb => ?_) (fun hb => ?_) <;> (try simp only [decide_eq_true_eq, decide_eq_false_iff_not, Bool.not_eq_true', Bool.not_eq_false'] at hb) <;> (try (exfalso; omega))
  · rw [if_pos (by omega)]
    refine S_ ?_
    refine Seq.callp false (i1) Tryd.func50 gR_ok subG.refl (by rfl) (by rfl) rfl rfl rfl rfl rfl (by rfl) rfl VW_ NI_ NI_ FR_ ?_
    refine S_ ?_
    exact retQ_ok (by rfl) [] nil_sub ⟨rfl, rfl⟩
  · rw [if_neg (by omega)]
    refine S_ ?_
    refine Seq.callp false (j1) Tryd.func46 gR_ok subG.refl (by rfl) (by rfl) rfl rfl rfl rfl rfl (by rfl) rfl VW_ NI_ NI_ FR_ ?_
    refine S_ ?_
    refine Seq.callp false (i2) Tryd.func50 gR_ok subG.refl (by rfl) (by rfl) rfl rfl rfl rfl rfl (by rfl) rfl VW_ NI_ NI_ FR_ ?_
    refine S_ ?_
    refine Seq.callp false (refNode_ok X Y d1 d2) Tryd.func31 gR_ok subG.refl (by rfl) (by rfl) rfl rfl rfl rfl rfl (by rfl) rfl VW_ NI_ NI_ FR_ ?_
    refine S_ ?_
    exact retQ_ok (by rfl) [] nil_sub ⟨rfl, rfl⟩
set_option maxRecDepth 10000 in
theorem refExt_arg (first root : List UInt8) (x y : Int) (L : List (List UInt8)) (h : x < 0 ∨ y < x ∨ 1073741824 < y) :
    Ok Tryd.prog 23 gR [] (argsX first root x y L) (fun r h' => r = .int .i64 1 ∧ h' = []) := by
  refine Ok.of_vc tt_ok Tryd.func23 rfl rfl (by show 5 ≤ _; decide) 0 (fun i av h => by cases h) fun c0 => ?_
  refine S_ ?_
  refine Seq.join (X := Unit) (fun _ => ⟨[(23, .bool true)], [], gR, 0⟩) (fun _ => True) ?_ fun _ _ => ?_
  · by_cases h1 : x < 0
    · refine Seq.same 15 (u' := .bool true) (by rfl) (congrArg AV.bool (decide_eq_true (by omega))) ?_
      refine S_ ?_
      refine ⟨(), trivial, ?_⟩
      refine Sim.less [] (by rfl) ?_ ?_ <;> (repeat' (first | exact EnvLe.nil | exact HeapLe.nil | with_reducible apply EnvLe.cons | with_reducible apply HeapLe.cons | (with_reducible refine RelA.int ?_; first | (refine Keep.mk ?_; first | with_reducible rfl | omega | decide) | skip) | exact rfl | exact ⟨rfl, rfl⟩ | (with_reducible refine RelA.rsl ?_; intro i hi) | (with_reducible refine RelA.arr ?_; intro i hi) | with_reducible refine RelA.pair ?_ ?_ | with_reducible refine RelA.rptr ?_ | (with_reducible refine RelA.rslw ?_; intro i hi) | (refine RelA.rsl ?_; intro i hi) | (refine RelA.rslw ?_; intro i hi) | (refine RelA.arr ?_; intro i hi) | refine RelA.pair ?_ ?_ | refine RelA.tup ?_ | ((first | refine RelA.rslL (by first | rfl | ((try simp only [List.length_take, List.length_drop, List.length_append, List.length_cons, List.length_nil, List.length_map, List.length_range]); omega)) ?_ | refine RelA.rslT (by first | rfl | ((try simp only [List.length_take, List.length_drop, List.length_append, List.length_cons, List.length_nil, List.length_map, List.length_range]); omega)) ?_ | refine RelA.arrL (by first | rfl | ((try simp only [List.length_take, List.length_drop, List.length_append, List.length_cons, List.length_nil, List.length_map, List.length_range]); omega)) ?_); intro i hi; (try simp (disch := omega) only [getD_take, getD_drop, Nat.zero_add, Int.toNat_natCast])) | exact RelA.bif_int | refine RelA.fn ?_ ?_)) <;> (try with_reducible refine Keep.mk ?_)
    refine Seq.same 15 (u' := .bool false) (by rfl) (congrArg AV.bool (decide_eq_false (by omega))) ?_
    refine S_ ?_
    by_cases h2 : y < x
    · refine Seq.same 20 (u' := .bool true) (by rfl) (congrArg AV.bool (decide_eq_true (by omega))) ?_
      refine S_ ?_
      refine ⟨(), trivial, ?_⟩
      refine Sim.less [] (by rfl) ?_ ?_ <;> (repeat' (first | exact EnvLe.nil | exact HeapLe.nil | with_reducible apply EnvLe.cons | with_reducible apply HeapLe.cons | (with_reducible refine RelA.int ?_; first | (refine Keep.mk ?_; first | with_reducible rfl | omega | decide) | skip) | exact rfl | exact ⟨rfl, rfl⟩ | (with_reducible refine RelA.rsl ?_; intro i hi) | (with_reducible refine RelA.arr ?_; intro i hi) | with_reducible refine RelA.pair ?_ ?_ | with_reducible refine RelA.rptr ?_ | (with_reducible refine RelA.rslw ?_; intro i hi) | (refine RelA.rsl ?_; intro i hi) | (refine RelA.rslw ?_; intro i hi) | (refine RelA.arr ?_; intro i hi) | refine RelA.pair ?_ ?_ | refine RelA.tup ?_ | ((first | refine RelA.rslL (by first | rfl | ((try simp only [List.length_take, List.length_drop, List.length_append, List.length_cons, List.length_nil, List.length_map, List.length_range]); omega)) ?_ | refine RelA.rslT (by first | rfl | ((try simp only [List.length_take, List.length_drop, List.length_append, List.length_cons, List.length_nil, List.length_map, List.length_range]); omega)) ?_ | refine RelA.arrL (by first | rfl | ((try simp only [List.length_take, List.length_drop, List.length_append, List.length_cons, List.length_nil, List.length_map, List.length_range]); omega)) ?_); intro i hi; (try simp (disch := omega) only [getD_take, getD_drop, Nat.zero_add, Int.toNat_natCast])) | exact RelA.bif_int | refine RelA.fn ?_ ?_)) <;> (try with_reducible refine Keep.mk ?_)
    refine Seq.same 20 (u' := .bool false) (by rfl) (congrArg AV.bool (decide_eq_false (by omega))) ?_
    refine S_ ?_
    refine ⟨(), trivial, ?_⟩
    rw [decide_eq_true (show 1073741824 < y by omega)]
    refine Sim.less [] (by rfl) ?_ ?_ <;> (repeat' (first | exact EnvLe.nil | exact HeapLe.nil | with_reducible apply EnvLe.cons | with_reducible apply HeapLe.cons | (with_reducible refine RelA.int ?_; first | (refine Keep.mk ?_; first | with_reducible rfl | omega | decide) | skip) | exact rfl | exact ⟨rfl, rfl⟩ | (with_reducible refine RelA.rsl ?_; intro i hi) | (with_reducible refine RelA.arr ?_; intro i hi) | with_reducible refine RelA.pair ?_ ?_ | with_reducible refine RelA.rptr ?_ | (with_reducible refine RelA.rslw ?_; intro i hi) | (refine RelA.rsl ?_; intro i hi) | (refine RelA.rslw ?_; intro i hi) | (refine RelA.arr ?_; intro i hi) | refine RelA.pair ?_ ?_ | refine RelA.tup ?_ | ((first | refine RelA.rslL (by first | rfl | ((try simp only [List.length_take, List.length_drop, List.length_append, List.length_cons, List.length_nil, List.length_map, List.length_range]); omega)) ?_ | refine RelA.rslT (by first | rfl | ((try simp only [List.length_take, List.length_drop, List.length_append, List.length_cons, List.length_nil, List.length_map, List.length_range]); omega)) ?_ | refine RelA.arrL (by first | rfl | ((try simp only [List.length_take, List.length_drop, List.length_append, List.length_cons, List.length_nil, List.length_map, List.length_range]); omega)) ?_); intro i hi; (try simp (disch := omega) only [getD_take, getD_drop, Nat.zero_add, Int.toNat_natCast])) | exact RelA.bif_int | refine RelA.fn ?_ ?_)) <;> (try with_reducible refine Keep.mk ?_)
  refine S_ ?_
  refine VC.cond (by rfl) (fun hb => ?_) (fun hb => ?_) <;> (try simp only [decide_eq_true_eq, decide_eq_false_iff_not, Bool.not_eq_true', Bool.not_eq_false'] at hb) <;> (try (exfalso; omega)) <;> (try (cases hb; done))
  refine S_ ?_
  exact retQ_ok (by rfl) [] nil_sub ⟨rfl, rfl⟩
set_option maxRecDepth 10000 in
theorem refExt_zero (first root : List UInt8) (hf : first.length = 16) (hr : root.length = 16) (L : List (List UInt8)) (hL : DOk L) :
    Ok Tryd.prog 23 gR [] (argsX first root 0 0 L) (fun r h' => r = .int .i64 (zeroE first root L) ∧ h' = []) := by
  have hL1 := hL.1
  have cr := refRoot_ok 0 [] rfl lOk_nil
  have hrb : (rootB []).length = 16 := rootB_length _
  have hd : L.length = 1 → (L.getD 0 []).length = 16 := fun h => by rw [← digsV_get (by omega)]; exact hL.get 0
  refine Ok.of_vc tt_ok Tryd.func23 rfl rfl (by show 5 ≤ _; decide) 0 (fun i av h => by cases h) fun c0 => ?_
  refine S_ ?_
  refine VC.cond (b := false) (by rfl) (fun e => by cases e) (fun _ => ?_) 
  refine S_ ?_
  refine VC.cond (b := false) (by rfl) (fun e => by cases e) (fun _ => ?_) 
  refine S_ ?_
  by_cases h1 : L.length = 1
  · have hd1 := hd h1
    refine VC.cond (by rfl) (fun hb => ?_) (fun hb => ?_) <;> (try simp only [decide_eq_true_eq, decide_eq_false_iff_not, Bool.not_eq_true', Bool.not_eq_false'] at hb) <;> (try (exfalso; omega))
    refine S_ ?_
    refine VC.cond (b := true) (by rfl) (fun _ => ?_) (fun e => by cases e) 
    refine S_ ?_
    refine VC.draw (mkP [(0, 0), (1, 1), (2, 3), (3, 0), (4, 15), (5, 31), (6, 63), (7, 63), (8, 191), (9, 447), (10, 1023), (11, 2047), (12, 4095), (13, 8191), (14, 8191), (15, 24575), (16, 57343), (17, 131071), (18, 262143)]) [] (by rfl) (by kernel_rfl) (by rfl) (by rfl) ?_
    refine D_ ?_
    refine DSeq.callp false (cr) Tryd.func12 gR_ok subG.refl (by rfl) (fastE (by rfl)) (fastH (by rfl)) (by rfl) (by rfl) rfl rfl rfl rfl rfl (by rfl) (by rfl) VW_ NI_ NI_ FR_ ?_
    by_cases h2 : L.getD 0 [] = rootB []
    · refine DSeq.nearr (false) tt_ok (by rfl) (fastE (by rfl)) (fastH (by rfl)) (by rfl) (by rfl) (by rfl) (by kernel_rfl) (by rfl) (by rfl) (by rfl) ⟨fun _ => (dig_eq hd1 hrb).2 h2, fun _ => rfl⟩ (by rfl) ?_
      refine D_ ?_
      by_cases h3 : first = L.getD 0 []
      · refine DSeq.nearr (false) tt_ok (by rfl) (fastE (by rfl)) (fastH (by rfl)) (by rfl) (by rfl) (by rfl) (by kernel_rfl) (by rfl) (by rfl) (by rfl) ⟨fun _ => (dig_eq hf hd1).2 h3, fun _ => rfl⟩ (by rfl) ?_
        refine D_ ?_
        by_cases h4 : root = L.getD 0 []
        · rw [show zeroE first root L = 0 by unfold zeroE; rw [if_pos ⟨h1, h2, h3, h4⟩]]
          refine DSeq.nearr (false) tt_ok (by rfl) (fastE (by rfl)) (fastH (by rfl)) (by rfl) (by rfl) (by rfl) (by kernel_rfl) (by rfl) (by rfl) (by rfl) ⟨fun _ => (dig_eq hr hd1).2 h4, fun _ => rfl⟩ (by rfl) ?_
          refine D_ ?_
          refine S_ ?_
          refine VC.cond (by rfl) (fun hb => ?_) (fun hb => ?_) <;> (try simp only [decide_eq_true_eq, decide_eq_false_iff_not, Bool.not_eq_true', Bool.not_eq_false'] at hb) <;> (try (exfalso; omega)) <;> (try (cases hb; done))
          refine S_ ?_
          exact retQ_ok (by rfl) [] nil_sub ⟨rfl, rfl⟩
        · rw [show zeroE first root L = 15 by unfold zeroE; rw [if_neg fun e => h4 e.2.2.2]]
          refine DSeq.nearr (true) tt_ok (by rfl) (fastE (by rfl)) (fastH (by rfl)) (by rfl) (by rfl) (by rfl) (by kernel_rfl) (by rfl) (by rfl) (by rfl) ⟨fun e => (by cases e), fun e => absurd ((dig_eq hr hd1).1 e) h4⟩ (by rfl) ?_
          refine D_ ?_
          refine S_ ?_
          refine VC.cond (by rfl) (fun hb => ?_) (fun hb => ?_) <;> (try simp only [decide_eq_true_eq, decide_eq_false_iff_not, Bool.not_eq_true', Bool.not_eq_false'] at hb) <;> (try (exfalso; omega)) <;> (try (cases hb; done))
          refine S_ ?_
          exact retQ_ok (by rfl) [] nil_sub ⟨rfl, rfl⟩
      · rw [show zeroE first root L = 15 by unfold zeroE; rw [if_neg fun e => h3 e.2.2.1]]
        refine DSeq.nearr (true) tt_ok (by rfl) (fastE (by rfl)) (fastH (by rfl)) (by rfl) (by rfl) (by rfl) (by kernel_rfl) (by rfl) (by rfl) (by rfl) ⟨fun e => (by cases e), fun e => absurd ((dig_eq hf hd1).1 e) h3⟩ (by rfl) ?_
        refine D_ ?_
        refine S_ ?_
        refine VC.cond (by rfl) (fun hb => ?_) (fun hb => ?_) <;> (try simp only [decide_eq_true_eq, decide_eq_false_iff_not, Bool.not_eq_true', Bool.not_eq_false'] at hb) <;> (try (exfalso; omega)) <;> (try (cases hb; done))
        refine S_ ?_
        exact retQ_ok (by rfl) [] nil_sub ⟨rfl, rfl⟩
    · rw [show zeroE first root L = 15 by unfold zeroE; rw [if_neg fun e => h2 e.2.1]]
      refine DSeq.nearr (true) tt_ok (by rfl) (fastE (by rfl)) (fastH (by rfl)) (by rfl) (by rfl) (by rfl) (by kernel_rfl) (by rfl) (by rfl) (by rfl) ⟨fun e => (by cases e), fun e => absurd ((dig_eq hd1 hrb).1 e) h2⟩ (by rfl) ?_
      refine D_ ?_
      refine S_ ?_
      refine VC.cond (by rfl) (fun hb => ?_) (fun hb => ?_) <;> (try simp only [decide_eq_true_eq, decide_eq_false_iff_not, Bool.not_eq_true', Bool.not_eq_false'] at hb) <;> (try (exfalso; omega)) <;> (try (cases hb; done))
      refine S_ ?_
      exact retQ_ok (by rfl) [] nil_sub ⟨rfl, rfl⟩
  · rw [show zeroE first root L = 15 by unfold zeroE; rw [if_neg fun e => h1 e.1]]
    refine VC.cond (by rfl) (fun hb => ?_) (fun hb => ?_) <;> (try simp only [decide_eq_true_eq, decide_eq_false_iff_not, Bool.not_eq_true', Bool.not_eq_false'] at hb) <;> (try (exfalso; omega))
    refine S_ ?_
    exact retQ_ok (by rfl) [] nil_sub ⟨rfl, rfl⟩
set_option maxRecDepth 10000 in
theorem refExt_pos (first root : List UInt8) (hf : first.length = 16) (hr : root.length = 16) (x y : Nat) (hy : 1 ≤ y) (hx : x ≤ y) (hy2 : y ≤ 1073741824) (L : List (List UInt8)) (hL : DOk L) :
    Ok Tryd.prog 23 gR [] (argsX first root x y L) (fun r h' => r = .int .i64 (extE first root x y L) ∧ h' = []) := by
  have hL1 := hL.1
  have cr := refRoot_ok 0 [] rfl lOk_nil
  have hrb : (rootB []).length = 16 := rootB_length _
  have hs := Tree.steps_short x y hy hy2
  have c1 := refSteps_ok x (by omega) 0 y hy (by omega) (by omega)
  rw [Nat.zero_add] at c1
  have hv := valD_length x x L [] hL 0 y 0 hy
  have ho := oldD_length x L hL 0 y hy 0
  unfold extE
  by_cases hkL : (Tree.steps x 0 y).length = L.length
  · have c2 := joined_ok x x (Tree.steps x 0 y) L [] hL lOk_nil hkL 0 (by omega) (fun e => by omega) 0 y hy (by omega) 0 (Tree.Placed.all _ _ _)
    have c3 := refOld_ok x (by omega) (Tree.steps x 0 y) L hL hkL 0 y hy (by omega) 0 (Tree.Placed.all _ _ _)
    rw [Nat.zero_add] at c2 c3
    generalize valD x x L [] 0 y 0 = V at *
    generalize oldD x L 0 y 0 = O at *
    generalize Tree.steps x 0 y = R at *
    obtain ⟨k, hk⟩ : ∃ k, k = R.length := ⟨_, rfl⟩
    rw [← hk] at c1 hs hkL
    rw [← hk]
    refine Ok.of_vc tt_ok Tryd.func23 rfl rfl (by show 5 ≤ _; decide) 0 (fun i av h => by cases h) fun c0 => ?_
    refine S_ ?_
    refine Seq.same 15 (u' := .bool false) (by rfl) (congrArg AV.bool (decide_eq_false (by omega))) ?_
    refine S_ ?_
    refine Seq.same 20 (u' := .bool false) (by rfl) (congrArg AV.bool (decide_eq_false (by omega))) ?_
    refine S_ ?_
    refine VC.cond (by rfl) (fun hb => ?_) (fun hb => ?_) <;> (try simp only [decide_eq_true_eq, decide_eq_false_iff_not, Bool.not_eq_true', Bool.not_eq_false'] at hb) <;> (try (exfalso; omega))
    refine S_ ?_
    refine VC.cond (by rfl) (fun hb => ?_) (fun hb => ?_) <;> (try simp only [decide_eq_true_eq, decide_eq_false_iff_not, Bool.not_eq_true', Bool.not_eq_false'] at hb) <;> (try (exfalso; omega))
    refine S_ ?_
    refine Seq.calln false (c1) Tryd.func39 gR_ok subG.nil (by rfl) (by rfl) rfl rfl rfl rfl rfl (by rfl) rfl VW_ NI_ NI_ FR_ ?_
    refine S_ ?_
    refine VC.cond (by rfl) (fun hb => ?_) (fun hb => ?_) <;> (try simp only [decide_eq_true_eq, decide_eq_false_iff_not, Bool.not_eq_true', Bool.not_eq_false'] at hb) <;> (try (exfalso; omega))
    refine S_ ?_
    refine VC.cond (by rfl) (fun hb => ?_) (fun hb => ?_) <;> (try simp only [decide_eq_true_eq, decide_eq_false_iff_not, Bool.not_eq_true', Bool.not_eq_false'] at hb) <;> (try (exfalso; omega))
    refine S_ ?_
    refine Seq.callp false (cr) Tryd.func12 gR_ok subG.refl (by rfl) (by rfl) rfl rfl rfl rfl rfl (by rfl) rfl VW_ NI_ NI_ FR_ ?_
    refine S_ ?_
    generalize hO' : (if x = 0 then rootB [] else O) = O'
    have ho' : O'.length = 16 := by rw [← hO']; split <;> assumption
    refine VC.joinT (X := Unit) (fun _ => ⟨[(12, .ptr 4 []), (11, .sl 3 [] 2 0 k), (6, .ptr 1 []), (5, .ptr 0 []), (3, .int .i64 (y : Nat)), (4, digsV L)], [(4, digA O'), (3, pairsO k R), (0, digA first), (1, digA root)], gR, 5⟩) (fun _ => True) ?_ fun _ _ => ?_
    · refine VC.cond (by rfl) (fun hb => ?_) (fun hb => ?_) <;> (try simp only [decide_eq_true_eq, decide_eq_false_iff_not, Bool.not_eq_true', Bool.not_eq_false'] at hb) <;> (try (exfalso; omega))
      · rw [if_neg (by omega)] at hO'
        subst hO'
        refine S_ ?_
        refine Seq.callp true (c3) Tryd.func50 gR_ok subG.refl (by rfl) (by rfl) rfl rfl rfl rfl rfl (by rfl) rfl ?_ NI_ NI_ FR_ ?_
        · repeat' (first | exact View.rel ⟨rfl, rfl⟩ | (refine View.sln (by rfl) (by rfl) (by (first | exact trivial | exact u8_in _ rfl | exact u32_in _ rfl | ((with_reducible refine AllP.guard ?_); simp only [AllP, inI, fitV, maxK, inK, inbL, inb, List.append, List.cons_append, List.nil_append, true_and, and_true]; first | done | omega))) ?_ ⟨rfl, rfl⟩ ?_ ?_) | exact View.nil | exact View.emp | refine View.pair ?_ ?_ | refine View.fn ?_ ?_ | refine View.ptr (by rfl) (by rfl) (by (first | exact trivial | exact u8_in _ rfl | exact u32_in _ rfl | ((with_reducible refine AllP.guard ?_); simp only [AllP, inI, fitV, maxK, inK, inbL, inb, List.append, List.cons_append, List.nil_append, true_and, and_true]; first | done | omega))) ⟨rfl, rfl⟩ ?_ | exact View.rel (NoId.self (by first | ((repeat' (first | exact trivial | exact rfl | refine NoFr.bif ?_ ?_ | refine NoId.bif ?_ ?_ | refine AllFr.bif ?_ ?_ | (intro i hi) | (refine ⟨?_, ?_⟩) | (intro e; cases e; done))); done) | fail)) | (exact NoId.self (by first | ((repeat' (first | exact trivial | exact rfl | refine NoFr.bif ?_ ?_ | refine NoId.bif ?_ ?_ | refine AllFr.bif ?_ ?_ | (intro i hi) | (refine ⟨?_, ?_⟩) | (intro e; cases e; done))); done) | fail)) | exact ⟨rfl, rfl⟩ | (refine View.rel ?_; repeat' (first | exact EnvLe.nil | exact HeapLe.nil | with_reducible apply EnvLe.cons | with_reducible apply HeapLe.cons | (with_reducible refine RelA.int ?_; first | (refine Keep.mk ?_; first | with_reducible rfl | omega | decide) | skip) | exact rfl | exact ⟨rfl, rfl⟩ | (with_reducible refine RelA.rsl ?_; intro i hi) | (with_reducible refine RelA.arr ?_; intro i hi) | with_reducible refine RelA.pair ?_ ?_ | with_reducible refine RelA.rptr ?_ | (with_reducible refine RelA.rslw ?_; intro i hi) | (refine RelA.rsl ?_; intro i hi) | (refine RelA.rslw ?_; intro i hi) | (refine RelA.arr ?_; intro i hi) | refine RelA.pair ?_ ?_ | refine RelA.tup ?_ | ((first | refine RelA.rslL (by first | rfl | ((try simp only [List.length_take, List.length_drop, List.length_append, List.length_cons, List.length_nil, List.length_map, List.length_range]); omega)) ?_ | refine RelA.rslT (by first | rfl | ((try simp only [List.length_take, List.length_drop, List.length_append, List.length_cons, List.length_nil, List.length_map, List.length_range]); omega)) ?_ | refine RelA.arrL (by first | rfl | ((try simp only [List.length_take, List.length_drop, List.length_append, List.length_cons, List.length_nil, List.length_map, List.length_range]); omega)) ?_); intro i hi; (try simp (disch := omega) only [getD_take, getD_drop, Nat.zero_add, Int.toNat_natCast])) | exact RelA.bif_int | refine RelA.fn ?_ ?_)) <;> (try with_reducible refine Keep.mk ?_))
          · omega
          · exact hk.symm
          · intro i hi
            rw [Nat.zero_add]
            exact NoId.self (a := pairA _) (fun _ _ => trivial)
        refine S_ ?_
        refine ⟨(), trivial, ?_⟩
        refine Sim.less [] (by rfl) ?_ ?_ <;> (repeat' (first | with_reducible refine relA_digsV ?_ | first | exact EnvLe.nil | exact HeapLe.nil | with_reducible apply EnvLe.cons | with_reducible apply HeapLe.cons | (with_reducible refine RelA.int ?_; first | (refine Keep.mk ?_; first | with_reducible rfl | omega | decide) | skip) | exact rfl | exact ⟨rfl, rfl⟩ | (with_reducible refine RelA.rsl ?_; intro i hi) | (with_reducible refine RelA.arr ?_; intro i hi) | with_reducible refine RelA.pair ?_ ?_ | with_reducible refine RelA.rptr ?_ | (with_reducible refine RelA.rslw ?_; intro i hi) | (refine RelA.rsl ?_; intro i hi) | (refine RelA.rslw ?_; intro i hi) | (refine RelA.arr ?_; intro i hi) | refine RelA.pair ?_ ?_ | refine RelA.tup ?_ | ((first | refine RelA.rslL (by first | rfl | ((try simp only [List.length_take, List.length_drop, List.length_append, List.length_cons, List.length_nil, List.length_map, List.length_range]); omega)) ?_ | refine RelA.rslT (by first | rfl | ((try simp only [List.length_take, List.length_drop, List.length_append, List.length_cons, List.length_nil, List.length_map, List.length_range]); omega)) ?_ | refine RelA.arrL (by first | rfl | ((try simp only [List.length_take, List.length_drop, List.length_append, List.length_cons, List.length_nil, List.length_map, List.length_range]); omega)) ?_); intro i hi; (try simp (disch := omega) only [getD_take, getD_drop, Nat.zero_add, Int.toNat_natCast])) | exact RelA.bif_int | refine RelA.fn ?_ ?_)) <;> (try with_reducible refine Keep.mk ?_)
        all_goals exact NoId.self (a := pairA _) (fun _ _ => trivial)
      · rw [if_pos (by omega)] at hO'
        subst hO'
        refine S_ ?_
        refine ⟨(), trivial, ?_⟩
        refine Sim.less [] (by rfl) ?_ ?_ <;> (repeat' (first | with_reducible refine relA_digsV ?_ | first | exact EnvLe.nil | exact HeapLe.nil | with_reducible apply EnvLe.cons | with_reducible apply HeapLe.cons | (with_reducible refine RelA.int ?_; first | (refine Keep.mk ?_; first | with_reducible rfl | omega | decide) | skip) | exact rfl | exact ⟨rfl, rfl⟩ | (with_reducible refine RelA.rsl ?_; intro i hi) | (with_reducible refine RelA.arr ?_; intro i hi) | with_reducible refine RelA.pair ?_ ?_ | with_reducible refine RelA.rptr ?_ | (with_reducible refine RelA.rslw ?_; intro i hi) | (refine RelA.rsl ?_; intro i hi) | (refine RelA.rslw ?_; intro i hi) | (refine RelA.arr ?_; intro i hi) | refine RelA.pair ?_ ?_ | refine RelA.tup ?_ | ((first | refine RelA.rslL (by first | rfl | ((try simp only [List.length_take, List.length_drop, List.length_append, List.length_cons, List.length_nil, List.length_map, List.length_range]); omega)) ?_ | refine RelA.rslT (by first | rfl | ((try simp only [List.length_take, List.length_drop, List.length_append, List.length_cons, List.length_nil, List.length_map, List.length_range]); omega)) ?_ | refine RelA.arrL (by first | rfl | ((try simp only [List.length_take, List.length_drop, List.length_append, List.length_cons, List.length_nil, List.length_map, List.length_range]); omega)) ?_); intro i hi; (try simp (disch := omega) only [getD_take, getD_drop, Nat.zero_add, Int.toNat_natCast])) | exact RelA.bif_int | refine RelA.fn ?_ ?_)) <;> (try with_reducible refine Keep.mk ?_)
        all_goals exact NoId.self (a := pairA _) (fun _ _ => trivial)
    clear hO' cr hrb ho c1 c3
    refine S_ ?_
    refine VC.draw (mkP [(0, 0), (1, 0), (2, 3), (3, 7), (4, 15), (5, 15), (6, 15), (7, 15), (8, 239), (9, 511), (10, 1023)]) [] (by rfl) (by kernel_rfl) (by rfl) (by rfl) ?_
    refine D_ ?_
    by_cases h2 : O' = first
    · refine DSeq.nearr (false) tt_ok (by rfl) (fastE (by rfl)) (fastH (by rfl)) (by rfl) (by rfl) (by rfl) (by kernel_rfl) (by rfl) (by rfl) (by rfl) ⟨fun _ => (dig_eq hf ho').2 h2.symm, fun _ => rfl⟩ (by rfl) ?_
      refine D_ ?_
      refine DSeq.callp true (c2) Tryd.func46 gR_ok subG.refl (by rfl) (fastE (by rfl)) (fastH (by rfl)) (by rfl) (by rfl) rfl rfl rfl rfl rfl (by rfl) (by rfl) ?_ NI_ NI_ FR_ ?_
      · repeat' (first | exact View.rel ⟨rfl, rfl⟩ | (refine View.sln (by rfl) (by rfl) (by (first | exact trivial | exact u8_in _ rfl | exact u32_in _ rfl | ((with_reducible refine AllP.guard ?_); simp only [AllP, inI, fitV, maxK, inK, inbL, inb, List.append, List.cons_append, List.nil_append, true_and, and_true]; first | done | omega))) ?_ ⟨rfl, rfl⟩ ?_ ?_) | exact View.nil | exact View.emp | refine View.pair ?_ ?_ | refine View.fn ?_ ?_ | refine View.ptr (by rfl) (by rfl) (by (first | exact trivial | exact u8_in _ rfl | exact u32_in _ rfl | ((with_reducible refine AllP.guard ?_); simp only [AllP, inI, fitV, maxK, inK, inbL, inb, List.append, List.cons_append, List.nil_append, true_and, and_true]; first | done | omega))) ⟨rfl, rfl⟩ ?_ | exact View.rel (NoId.self (by first | ((repeat' (first | exact trivial | exact rfl | refine NoFr.bif ?_ ?_ | refine NoId.bif ?_ ?_ | refine AllFr.bif ?_ ?_ | (intro i hi) | (refine ⟨?_, ?_⟩) | (intro e; cases e; done))); done) | fail)) | (exact NoId.self (by first | ((repeat' (first | exact trivial | exact rfl | refine NoFr.bif ?_ ?_ | refine NoId.bif ?_ ?_ | refine AllFr.bif ?_ ?_ | (intro i hi) | (refine ⟨?_, ?_⟩) | (intro e; cases e; done))); done) | fail)) | exact ⟨rfl, rfl⟩ | (refine View.rel ?_; repeat' (first | exact EnvLe.nil | exact HeapLe.nil | with_reducible apply EnvLe.cons | with_reducible apply HeapLe.cons | (with_reducible refine RelA.int ?_; first | (refine Keep.mk ?_; first | with_reducible rfl | omega | decide) | skip) | exact rfl | exact ⟨rfl, rfl⟩ | (with_reducible refine RelA.rsl ?_; intro i hi) | (with_reducible refine RelA.arr ?_; intro i hi) | with_reducible refine RelA.pair ?_ ?_ | with_reducible refine RelA.rptr ?_ | (with_reducible refine RelA.rslw ?_; intro i hi) | (refine RelA.rsl ?_; intro i hi) | (refine RelA.rslw ?_; intro i hi) | (refine RelA.arr ?_; intro i hi) | refine RelA.pair ?_ ?_ | refine RelA.tup ?_ | ((first | refine RelA.rslL (by first | rfl | ((try simp only [List.length_take, List.length_drop, List.length_append, List.length_cons, List.length_nil, List.length_map, List.length_range]); omega)) ?_ | refine RelA.rslT (by first | rfl | ((try simp only [List.length_take, List.length_drop, List.length_append, List.length_cons, List.length_nil, List.length_map, List.length_range]); omega)) ?_ | refine RelA.arrL (by first | rfl | ((try simp only [List.length_take, List.length_drop, List.length_append, List.length_cons, List.length_nil, List.length_map, List.length_range]); omega)) ?_); intro i hi; (try simp (disch := omega) only [getD_take, getD_drop, Nat.zero_add, Int.toNat_natCast])) | exact RelA.bif_int | refine RelA.fn ?_ ?_)) <;> (try with_reducible refine Keep.mk ?_))
        · omega
        · exact hk.symm
        · intro i hi
          rw [Nat.zero_add]
          exact NoId.self (a := pairA _) (fun _ _ => trivial)
      refine D_ ?_
      by_cases h1 : V = root
      · rw [if_pos ⟨hkL, h1, h2⟩]
        refine DSeq.nearr (false) tt_ok (by rfl) (fastE (by rfl)) (fastH (by rfl)) (by rfl) (by rfl) (by rfl) (by kernel_rfl) (by rfl) (by rfl) (by rfl) ⟨fun _ => (dig_eq hr hv).2 h1.symm, fun _ => rfl⟩ (by rfl) ?_
        refine D_ ?_
        refine S_ ?_
        refine VC.cond (by rfl) (fun hb => ?_) (fun hb => ?_) <;> (try simp only [decide_eq_true_eq, decide_eq_false_iff_not, Bool.not_eq_true', Bool.not_eq_false'] at hb) <;> (try (exfalso; omega)) <;> (try (cases hb; done))
        refine S_ ?_
        exact retQ_ok (by rfl) [] nil_sub ⟨rfl, rfl⟩
      · rw [if_neg fun e => h1 e.2.1]
        refine DSeq.nearr (true) tt_ok (by rfl) (fastE (by rfl)) (fastH (by rfl)) (by rfl) (by rfl) (by rfl) (by kernel_rfl) (by rfl) (by rfl) (by rfl) ⟨fun e => (by cases e), fun e => absurd ((dig_eq hr hv).1 e).symm h1⟩ (by rfl) ?_
        refine D_ ?_
        refine S_ ?_
        refine VC.cond (by rfl) (fun hb => ?_) (fun hb => ?_) <;> (try simp only [decide_eq_true_eq, decide_eq_false_iff_not, Bool.not_eq_true', Bool.not_eq_false'] at hb) <;> (try (exfalso; omega)) <;> (try (cases hb; done))
        refine S_ ?_
        exact retQ_ok (by rfl) [] nil_sub ⟨rfl, rfl⟩
    · rw [if_neg fun e => h2 e.2.2]
      refine DSeq.nearr (true) tt_ok (by rfl) (fastE (by rfl)) (fastH (by rfl)) (by rfl) (by rfl) (by rfl) (by kernel_rfl) (by rfl) (by rfl) (by rfl) ⟨fun e => (by cases e), fun e => absurd ((dig_eq hf ho').1 e).symm h2⟩ (by rfl) ?_
      refine D_ ?_
      refine S_ ?_
      refine VC.cond (by rfl) (fun hb => ?_) (fun hb => ?_) <;> (try simp only [decide_eq_true_eq, decide_eq_false_iff_not, Bool.not_eq_true', Bool.not_eq_false'] at hb) <;> (try (exfalso; omega)) <;> (try (cases hb; done))
      refine S_ ?_
      exact retQ_ok (by rfl) [] nil_sub ⟨rfl, rfl⟩
  · rw [if_neg fun e => hkL e.1]
    generalize Tree.steps x 0 y = R at *
    obtain ⟨k, hk⟩ : ∃ k, k = R.length := ⟨_, rfl⟩
    rw [← hk] at c1 hs hkL
    refine Ok.of_vc tt_ok Tryd.func23 rfl rfl (by show 5 ≤ _; decide) 0 (fun i av h => by cases h) fun c0 => ?_
    refine S_ ?_
    refine Seq.same 15 (u' := .bool false) (by rfl) (congrArg AV.bool (decide_eq_false (by omega))) ?_
    refine S_ ?_
    refine Seq.same 20 (u' := .bool false) (by rfl) (congrArg AV.bool (decide_eq_false (by omega))) ?_
    refine S_ ?_
    refine VC.cond (by rfl) (fun hb => ?_) (fun hb => ?_) <;> (try simp only [decide_eq_true_eq, decide_eq_false_iff_not, Bool.not_eq_true', Bool.not_eq_false'] at hb) <;> (try (exfalso; omega))
    refine S_ ?_
    refine VC.cond (by rfl) (fun hb => ?_) (fun hb => ?_) <;> (try simp only [decide_eq_true_eq, decide_eq_false_iff_not, Bool.not_eq_true', Bool.not_eq_false'] at hb) <;> (try (exfalso; omega))
    refine S_ ?_
    refine Seq.calln false (c1) Tryd.func39 gR_ok subG.nil (by rfl) (by rfl) rfl rfl rfl rfl rfl (by rfl) rfl VW_ NI_ NI_ FR_ ?_
    refine S_ ?_
    refine VC.cond (by rfl) (fun hb => ?_) (fun hb => ?_) <;> (try simp only [decide_eq_true_eq, decide_eq_false_iff_not, Bool.not_eq_true', Bool.not_eq_false'] at hb) <;> (try (exfalso; omega))
    refine S_ ?_
    exact retQ_ok (by rfl) [] nil_sub ⟨rfl, rfl⟩
/-- What Extends returns. -/
def extendsE (first root : List UInt8) (x y : Int) (L : List (List UInt8)) : Int := if x < 0 ∨ y < x ∨ 1073741824 < y then 1 else if y = 0 then zeroE first root L else extE first root x.toNat y.toNat L
theorem extends_ok (first root : List UInt8) (hf : first.length = 16) (hr : root.length = 16) (x y : Int) (L : List (List UInt8)) (hL : DOk L) : Ok Tryd.prog 22 gK [] (argsX first root x y L) (fun r h' => r = .int .i64 (extendsE first root x y L) ∧ h' = []) := by
  unfold extendsE
  by_cases h : x < 0 ∨ y < x ∨ 1073741824 < y
  · rw [if_pos h]; exact ext_arg first root x y L h
  · rw [if_neg h]
    by_cases h0 : y = 0
    · rw [if_pos h0]
      obtain rfl : x = 0 := by omega
      subst h0
      exact ext_zero first root hf hr L hL
    · rw [if_neg h0]
      obtain ⟨a, rfl⟩ : ∃ a : Nat, x = a := ⟨x.toNat, by omega⟩
      obtain ⟨b, rfl⟩ : ∃ b : Nat, y = b := ⟨y.toNat, by omega⟩
      exact ext_pos first root hf hr a b (by omega) (by omega) (by omega) L hL
theorem refExtends_ok (first root : List UInt8) (hf : first.length = 16) (hr : root.length = 16) (x y : Int) (L : List (List UInt8)) (hL : DOk L) : Ok Tryd.prog 23 gR [] (argsX first root x y L) (fun r h' => r = .int .i64 (extendsE first root x y L) ∧ h' = []) := by
  unfold extendsE
  by_cases h : x < 0 ∨ y < x ∨ 1073741824 < y
  · rw [if_pos h]; exact refExt_arg first root x y L h
  · rw [if_neg h]
    by_cases h0 : y = 0
    · rw [if_pos h0]
      obtain rfl : x = 0 := by omega
      subst h0
      exact refExt_zero first root hf hr L hL
    · rw [if_neg h0]
      obtain ⟨a, rfl⟩ : ∃ a : Nat, x = a := ⟨x.toNat, by omega⟩
      obtain ⟨b, rfl⟩ : ∃ b : Nat, y = b := ⟨y.toNat, by omega⟩
      exact refExt_pos first root hf hr a b (by omega) (by omega) (by omega) L hL
end Go.Proofs.YtbphmbmdkojbnaaDoor
