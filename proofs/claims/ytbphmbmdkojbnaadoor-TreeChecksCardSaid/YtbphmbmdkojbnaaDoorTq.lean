
/- dioramaref39.Check; both Checks. -/
import Derived.Test.YtbphmbmdkojbnaaDoorTp
set_option linter.unusedSimpArgs false
set_option linter.unusedVariables false
namespace Go.Proofs.YtbphmbmdkojbnaaDoor
open Go.V Go.RowKit Go.U Go.L
set_option maxRecDepth 10000 in
theorem refCheck_no (root : List UInt8) (n p : Int) (L leaves : List (List UInt8)) (hl : leaves.length ≤ 1000000000) (hL : L.length ≤ 1000000000) (h : leaves.length = 0 ∨ n < 1 ∨ 1073741824 < n ∨ p < 0 ∨ n - leaves.length < p) :
    Ok Tryd.prog 21 gR [] (argsK root n p L leaves) (fun r h' => r = .int .i64 1 ∧ h' = []) := by
  refine Ok.of_vc tt_ok Tryd.func21 rfl rfl (by show 3 ≤ _; decide) 0 (fun i av h => by cases h) fun c0 => ?_
  refine S_ ?_
  refine Seq.join (X := Unit) (fun _ => ⟨[(35, .bool true)], [], gR, 0⟩) (fun _ => True) ?_ fun _ _ => ?_
  · by_cases h1 : leaves.length = 0
    · refine Seq.same 11 (u' := .bool true) (by rfl) (congrArg AV.bool (decide_eq_true (by omega))) ?_
      refine S_ ?_
      refine ⟨(), trivial, ?_⟩
      refine Sim.less [] (by rfl) ?_ ?_ <;> (repeat' (first | exact EnvLe.nil | exact HeapLe.nil | with_reducible apply EnvLe.cons | with_reducible apply HeapLe.cons | (with_reducible refine RelA.int ?_; first | (refine Keep.mk ?_; first | with_reducible rfl | omega | decide) | skip) | exact rfl | exact ⟨rfl, rfl⟩ | (with_reducible refine RelA.rsl ?_; intro i hi) | (with_reducible refine RelA.arr ?_; intro i hi) | with_reducible refine RelA.pair ?_ ?_ | with_reducible refine RelA.rptr ?_ | (with_reducible refine RelA.rslw ?_; intro i hi) | (refine RelA.rsl ?_; intro i hi) | (refine RelA.rslw ?_; intro i hi) | (refine RelA.arr ?_; intro i hi) | refine RelA.pair ?_ ?_ | refine RelA.tup ?_ | ((first | refine RelA.rslL (by first | rfl | ((try simp only [List.length_take, List.length_drop, List.length_append, List.length_cons, List.length_nil, List.length_map, List.length_range]); omega)) ?_ | refine RelA.rslT (by first | rfl | ((try simp only [List.length_take, List.length_drop, List.length_append, List.length_cons, List.length_nil, List.length_map, List.length_range]); omega)) ?_ | refine RelA.arrL (by first | rfl | ((try simp only [List.length_take, List.length_drop, List.length_append, List.length_cons, List.length_nil, List.length_map, List.length_range]); omega)) ?_); intro i hi; (try simp (disch := omega) only [getD_take, getD_drop, Nat.zero_add, Int.toNat_natCast])) | exact RelA.bif_int | refine RelA.fn ?_ ?_)) <;> (try with_reducible refine Keep.mk ?_)
    refine Seq.same 11 (u' := .bool false) (by rfl) (congrArg AV.bool (decide_eq_false (by omega))) ?_
    refine S_ ?_
    by_cases h2 : n < 1
    · refine Seq.same 16 (u' := .bool true) (by rfl) (congrArg AV.bool (decide_eq_true (by omega))) ?_
      refine S_ ?_
      refine ⟨(), trivial, ?_⟩
      refine Sim.less [] (by rfl) ?_ ?_ <;> (repeat' (first | exact EnvLe.nil | exact HeapLe.nil | with_reducible apply EnvLe.cons | with_reducible apply HeapLe.cons | (with_reducible refine RelA.int ?_; first | (refine Keep.mk ?_; first | with_reducible rfl | omega | decide) | skip) | exact rfl | exact ⟨rfl, rfl⟩ | (with_reducible refine RelA.rsl ?_; intro i hi) | (with_reducible refine RelA.arr ?_; intro i hi) | with_reducible refine RelA.pair ?_ ?_ | with_reducible refine RelA.rptr ?_ | (with_reducible refine RelA.rslw ?_; intro i hi) | (refine RelA.rsl ?_; intro i hi) | (refine RelA.rslw ?_; intro i hi) | (refine RelA.arr ?_; intro i hi) | refine RelA.pair ?_ ?_ | refine RelA.tup ?_ | ((first | refine RelA.rslL (by first | rfl | ((try simp only [List.length_take, List.length_drop, List.length_append, List.length_cons, List.length_nil, List.length_map, List.length_range]); omega)) ?_ | refine RelA.rslT (by first | rfl | ((try simp only [List.length_take, List.length_drop, List.length_append, List.length_cons, List.length_nil, List.length_map, List.length_range]); omega)) ?_ | refine RelA.arrL (by first | rfl | ((try simp only [List.length_take, List.length_drop, List.length_append, List.length_cons, List.length_nil, List.length_map, List.length_range]); omega)) ?_); intro i hi; (try simp (disch := omega) only [getD_take, getD_drop, Nat.zero_add, Int.toNat_natCast])) | exact RelA.bif_int | refine RelA.fn ?_ ?_)) <;> (try with_reducible refine Keep.mk ?_)
    refine Seq.same 16 (u' := .bool false) (by rfl) (congrArg AV.bool (decide_eq_false (by omega))) ?_
    refine S_ ?_
    by_cases h3 : 1073741824 < n
    · refine Seq.same 21 (u' := .bool true) (by rfl) (congrArg AV.bool (decide_eq_true (by omega))) ?_
      refine S_ ?_
      refine ⟨(), trivial, ?_⟩
      refine Sim.less [] (by rfl) ?_ ?_ <;> (repeat' (first | exact EnvLe.nil | exact HeapLe.nil | with_reducible apply EnvLe.cons | with_reducible apply HeapLe.cons | (with_reducible refine RelA.int ?_; first | (refine Keep.mk ?_; first | with_reducible rfl | omega | decide) | skip) | exact rfl | exact ⟨rfl, rfl⟩ | (with_reducible refine RelA.rsl ?_; intro i hi) | (with_reducible refine RelA.arr ?_; intro i hi) | with_reducible refine RelA.pair ?_ ?_ | with_reducible refine RelA.rptr ?_ | (with_reducible refine RelA.rslw ?_; intro i hi) | (refine RelA.rsl ?_; intro i hi) | (refine RelA.rslw ?_; intro i hi) | (refine RelA.arr ?_; intro i hi) | refine RelA.pair ?_ ?_ | refine RelA.tup ?_ | ((first | refine RelA.rslL (by first | rfl | ((try simp only [List.length_take, List.length_drop, List.length_append, List.length_cons, List.length_nil, List.length_map, List.length_range]); omega)) ?_ | refine RelA.rslT (by first | rfl | ((try simp only [List.length_take, List.length_drop, List.length_append, List.length_cons, List.length_nil, List.length_map, List.length_range]); omega)) ?_ | refine RelA.arrL (by first | rfl | ((try simp only [List.length_take, List.length_drop, List.length_append, List.length_cons, List.length_nil, List.length_map, List.length_range]); omega)) ?_); intro i hi; (try simp (disch := omega) only [getD_take, getD_drop, Nat.zero_add, Int.toNat_natCast])) | exact RelA.bif_int | refine RelA.fn ?_ ?_)) <;> (try with_reducible refine Keep.mk ?_)
    refine Seq.same 21 (u' := .bool false) (by rfl) (congrArg AV.bool (decide_eq_false (by omega))) ?_
    refine S_ ?_
    by_cases h4 : p < 0
    · refine Seq.same 26 (u' := .bool true) (by rfl) (congrArg AV.bool (decide_eq_true (by omega))) ?_
      refine S_ ?_
      refine ⟨(), trivial, ?_⟩
      refine Sim.less [] (by rfl) ?_ ?_ <;> (repeat' (first | exact EnvLe.nil | exact HeapLe.nil | with_reducible apply EnvLe.cons | with_reducible apply HeapLe.cons | (with_reducible refine RelA.int ?_; first | (refine Keep.mk ?_; first | with_reducible rfl | omega | decide) | skip) | exact rfl | exact ⟨rfl, rfl⟩ | (with_reducible refine RelA.rsl ?_; intro i hi) | (with_reducible refine RelA.arr ?_; intro i hi) | with_reducible refine RelA.pair ?_ ?_ | with_reducible refine RelA.rptr ?_ | (with_reducible refine RelA.rslw ?_; intro i hi) | (refine RelA.rsl ?_; intro i hi) | (refine RelA.rslw ?_; intro i hi) | (refine RelA.arr ?_; intro i hi) | refine RelA.pair ?_ ?_ | refine RelA.tup ?_ | ((first | refine RelA.rslL (by first | rfl | ((try simp only [List.length_take, List.length_drop, List.length_append, List.length_cons, List.length_nil, List.length_map, List.length_range]); omega)) ?_ | refine RelA.rslT (by first | rfl | ((try simp only [List.length_take, List.length_drop, List.length_append, List.length_cons, List.length_nil, List.length_map, List.length_range]); omega)) ?_ | refine RelA.arrL (by first | rfl | ((try simp only [List.length_take, List.length_drop, List.length_append, List.length_cons, List.length_nil, List.length_map, List.length_range]); omega)) ?_); intro i hi; (try simp (disch := omega) only [getD_take, getD_drop, Nat.zero_add, Int.toNat_natCast])) | exact RelA.bif_int | refine RelA.fn ?_ ?_)) <;> (try with_reducible refine Keep.mk ?_)
    refine Seq.same 26 (u' := .bool false) (by rfl) (congrArg AV.bool (decide_eq_false (by omega))) ?_
    refine S_ ?_
    refine ⟨(), trivial, ?_⟩
    rw [decide_eq_true (show n - leaves.length < p by omega)]
    refine Sim.less [] (by rfl) ?_ ?_ <;> (repeat' (first | exact EnvLe.nil | exact HeapLe.nil | with_reducible apply EnvLe.cons | with_reducible apply HeapLe.cons | (with_reducible refine RelA.int ?_; first | (refine Keep.mk ?_; first | with_reducible rfl | omega | decide) | skip) | exact rfl | exact ⟨rfl, rfl⟩ | (with_reducible refine RelA.rsl ?_; intro i hi) | (with_reducible refine RelA.arr ?_; intro i hi) | with_reducible refine RelA.pair ?_ ?_ | with_reducible refine RelA.rptr ?_ | (with_reducible refine RelA.rslw ?_; intro i hi) | (refine RelA.rsl ?_; intro i hi) | (refine RelA.rslw ?_; intro i hi) | (refine RelA.arr ?_; intro i hi) | refine RelA.pair ?_ ?_ | refine RelA.tup ?_ | ((first | refine RelA.rslL (by first | rfl | ((try simp only [List.length_take, List.length_drop, List.length_append, List.length_cons, List.length_nil, List.length_map, List.length_range]); omega)) ?_ | refine RelA.rslT (by first | rfl | ((try simp only [List.length_take, List.length_drop, List.length_append, List.length_cons, List.length_nil, List.length_map, List.length_range]); omega)) ?_ | refine RelA.arrL (by first | rfl | ((try simp only [List.length_take, List.length_drop, List.length_append, List.length_cons, List.length_nil, List.length_map, List.length_range]); omega)) ?_); intro i hi; (try simp (disch := omega) only [getD_take, getD_drop, Nat.zero_add, Int.toNat_natCast])) | exact RelA.bif_int | refine RelA.fn ?_ ?_)) <;> (try with_reducible refine Keep.mk ?_)
  refine S_ ?_
  refine VC.cond (by rfl) (fun hb => ?_) (fun hb => ?_) <;> (try simp only [decide_eq_true_eq, decide_eq_false_iff_not, Bool.not_eq_true', Bool.not_eq_false'] at hb) <;> (try (exfalso; omega)) <;> (try (cases hb; done))
  refine S_ ?_
  exact retQ_ok (by rfl) [] nil_sub ⟨rfl, rfl⟩
set_option maxRecDepth 10000 in
theorem refCheck_yes (root : List UInt8) (hr : root.length = 16) (n p : Nat) (L leaves : List (List UInt8)) (hl : LOk leaves) (hl2 : leaves.length ≤ 1000000000) (hL : DOk L) (h1 : leaves.length ≠ 0) (h2 : 1 ≤ n) (h3 : n ≤ 1073741824) (h4 : p + leaves.length ≤ n) (X : List UInt8) (k : Nat) (hX : X = valD p (p + leaves.length) L leaves 0 n 0) (hk : k = (Tree.rest p (p + leaves.length) 0 n).length) :
    Ok Tryd.prog 21 gR [] (argsK root n p L leaves) (fun r h' => r = .int .i64 (if k = L.length ∧ X = root then 0 else 15) ∧ h' = []) := by
  have hL1 := hL.1
  have hs := Tree.rest_short p (p + leaves.length) n h2 (by omega) (by omega) h3
  have c1 := refRest_ok p (p + leaves.length) (by omega) 0 n (by omega) (by omega) (by omega)
  rw [Nat.zero_add] at c1
  have hX2 : X.length = 16 := by rw [hX]; exact valD_length _ _ _ _ hL _ _ _ (by omega)
  by_cases hkL : k = L.length
  · have c2 := joined_ok p (p + leaves.length) (Tree.rest p (p + leaves.length) 0 n) L leaves hL hl (by omega) p (by omega) (fun _ => ⟨rfl, by omega⟩) 0 n (by omega) (by omega) 0 (Tree.Placed.all _ _ _)
    rw [Nat.zero_add, ← hX] at c2
    clear hX
    generalize Tree.rest p (p + leaves.length) 0 n = R at *
    rw [← hk] at c1 hs
    refine Ok.of_vc tt_ok Tryd.func21 rfl rfl (by show 3 ≤ _; decide) 0 (fun i av h => by cases h) fun c0 => ?_
    refine S_ ?_
    refine Seq.same 11 (u' := .bool false) (by rfl) (congrArg AV.bool (decide_eq_false (by omega))) ?_
    refine S_ ?_
    refine Seq.same 16 (u' := .bool false) (by rfl) (congrArg AV.bool (decide_eq_false (by omega))) ?_
    refine S_ ?_
    refine Seq.same 21 (u' := .bool false) (by rfl) (congrArg AV.bool (decide_eq_false (by omega))) ?_
    refine S_ ?_
    refine VC.cond (by rfl) (fun hb => ?_) (fun hb => ?_) <;> (try simp only [decide_eq_true_eq, decide_eq_false_iff_not, Bool.not_eq_true', Bool.not_eq_false'] at hb) <;> (try (exfalso; omega))
    refine S_ ?_
    refine Seq.calln false (c1) Tryd.func36 gR_ok subG.nil (by rfl) (by rfl) rfl rfl rfl rfl rfl (by rfl) rfl VW_ NI_ NI_ FR_ ?_
    refine S_ ?_
    refine VC.cond (by rfl) (fun hb => ?_) (fun hb => ?_) <;> (try simp only [decide_eq_true_eq, decide_eq_false_iff_not, Bool.not_eq_true', Bool.not_eq_false'] at hb) <;> (try (exfalso; omega))
    refine S_ ?_
    refine VC.draw (mkP [(0, 0), (1, 1), (2, 0), (3, 0), (4, 8), (5, 0), (6, 0), (7, 64), (8, 255), (9, 0), (10, 1023)]) [] (by rfl) (by kernel_rfl) (by rfl) (by rfl) ?_
    refine D_ ?_
    refine DSeq.callp true (c2) Tryd.func46 gR_ok subG.refl (by rfl) (fastE (by rfl)) (fastH (by rfl)) (by rfl) (by rfl) rfl rfl rfl rfl rfl (by rfl) (by rfl) ?_ NI_ NI_ FR_ ?_
    · repeat' (first | exact View.rel ⟨rfl, rfl⟩ | (refine View.sln (by rfl) (by rfl) (by (first | exact trivial | exact u8_in _ rfl | exact u32_in _ rfl | ((with_reducible refine AllP.guard ?_); simp only [AllP, inI, fitV, maxK, inK, inbL, inb, List.append, List.cons_append, List.nil_append, true_and, and_true]; first | done | omega))) ?_ ⟨rfl, rfl⟩ ?_ ?_) | exact View.nil | exact View.emp | refine View.pair ?_ ?_ | refine View.fn ?_ ?_ | refine View.ptr (by rfl) (by rfl) (by (first | exact trivial | exact u8_in _ rfl | exact u32_in _ rfl | ((with_reducible refine AllP.guard ?_); simp only [AllP, inI, fitV, maxK, inK, inbL, inb, List.append, List.cons_append, List.nil_append, true_and, and_true]; first | done | omega))) ⟨rfl, rfl⟩ ?_ | exact View.rel (NoId.self (by first | ((repeat' (first | exact trivial | exact rfl | refine NoFr.bif ?_ ?_ | refine NoId.bif ?_ ?_ | refine AllFr.bif ?_ ?_ | (intro i hi) | (refine ⟨?_, ?_⟩) | (intro e; cases e; done))); done) | fail)) | (exact NoId.self (by first | ((repeat' (first | exact trivial | exact rfl | refine NoFr.bif ?_ ?_ | refine NoId.bif ?_ ?_ | refine AllFr.bif ?_ ?_ | (intro i hi) | (refine ⟨?_, ?_⟩) | (intro e; cases e; done))); done) | fail)) | exact ⟨rfl, rfl⟩ | (refine View.rel ?_; repeat' (first | exact EnvLe.nil | exact HeapLe.nil | with_reducible apply EnvLe.cons | with_reducible apply HeapLe.cons | (with_reducible refine RelA.int ?_; first | (refine Keep.mk ?_; first | with_reducible rfl | omega | decide) | skip) | exact rfl | exact ⟨rfl, rfl⟩ | (with_reducible refine RelA.rsl ?_; intro i hi) | (with_reducible refine RelA.arr ?_; intro i hi) | with_reducible refine RelA.pair ?_ ?_ | with_reducible refine RelA.rptr ?_ | (with_reducible refine RelA.rslw ?_; intro i hi) | (refine RelA.rsl ?_; intro i hi) | (refine RelA.rslw ?_; intro i hi) | (refine RelA.arr ?_; intro i hi) | refine RelA.pair ?_ ?_ | refine RelA.tup ?_ | ((first | refine RelA.rslL (by first | rfl | ((try simp only [List.length_take, List.length_drop, List.length_append, List.length_cons, List.length_nil, List.length_map, List.length_range]); omega)) ?_ | refine RelA.rslT (by first | rfl | ((try simp only [List.length_take, List.length_drop, List.length_append, List.length_cons, List.length_nil, List.length_map, List.length_range]); omega)) ?_ | refine RelA.arrL (by first | rfl | ((try simp only [List.length_take, List.length_drop, List.length_append, List.length_cons, List.length_nil, List.length_map, List.length_range]); omega)) ?_); intro i hi; (try simp (disch := omega) only [getD_take, getD_drop, Nat.zero_add, Int.toNat_natCast])) | exact RelA.bif_int | refine RelA.fn ?_ ?_)) <;> (try with_reducible refine Keep.mk ?_))
      · omega
      · exact hk.symm
      · intro i hi
        rw [Nat.zero_add]
        exact NoId.self (a := pairA _) (fun _ _ => trivial)
    refine D_ ?_
    by_cases hXr : X = root
    · rw [if_pos ⟨hkL, hXr⟩]
      refine DSeq.nearr (false) tt_ok (by rfl) (fastE (by rfl)) (fastH (by rfl)) (by rfl) (by rfl) (by rfl) (by kernel_rfl) (by rfl) (by rfl) (by rfl) ⟨fun _ => (dig_eq hX2 hr).2 hXr, fun _ => rfl⟩ (by rfl) ?_
      refine D_ ?_
      refine S_ ?_
      refine VC.cond (by rfl) (fun hb => ?_) (fun hb => ?_) <;> (try simp only [decide_eq_true_eq, decide_eq_false_iff_not, Bool.not_eq_true', Bool.not_eq_false'] at hb) <;> (try (exfalso; omega)) <;> (try (cases hb; done))
      refine S_ ?_
      exact retQ_ok (by rfl) [] nil_sub ⟨rfl, rfl⟩
    · rw [if_neg (fun e => hXr e.2)]
      refine DSeq.nearr (true) tt_ok (by rfl) (fastE (by rfl)) (fastH (by rfl)) (by rfl) (by rfl) (by rfl) (by kernel_rfl) (by rfl) (by rfl) (by rfl) ⟨fun e => (by cases e), fun e => absurd ((dig_eq hX2 hr).1 e) hXr⟩ (by rfl) ?_
      refine D_ ?_
      refine S_ ?_
      refine VC.cond (by rfl) (fun hb => ?_) (fun hb => ?_) <;> (try simp only [decide_eq_true_eq, decide_eq_false_iff_not, Bool.not_eq_true', Bool.not_eq_false'] at hb) <;> (try (exfalso; omega)) <;> (try (cases hb; done))
      refine S_ ?_
      exact retQ_ok (by rfl) [] nil_sub ⟨rfl, rfl⟩
  · rw [if_neg (fun e => hkL e.1)]
    clear hX
    generalize Tree.rest p (p + leaves.length) 0 n = R at *
    rw [← hk] at c1 hs
    refine Ok.of_vc tt_ok Tryd.func21 rfl rfl (by show 3 ≤ _; decide) 0 (fun i av h => by cases h) fun c0 => ?_
    refine S_ ?_
    refine Seq.same 11 (u' := .bool false) (by rfl) (congrArg AV.bool (decide_eq_false (by omega))) ?_
    refine S_ ?_
    refine Seq.same 16 (u' := .bool false) (by rfl) (congrArg AV.bool (decide_eq_false (by omega))) ?_
    refine S_ ?_
    refine Seq.same 21 (u' := .bool false) (by rfl) (congrArg AV.bool (decide_eq_false (by omega))) ?_
    refine S_ ?_
    refine VC.cond (by rfl) (fun hb => ?_) (fun hb => ?_) <;> (try simp only [decide_eq_true_eq, decide_eq_false_iff_not, Bool.not_eq_true', Bool.not_eq_false'] at hb) <;> (try (exfalso; omega))
    refine S_ ?_
    refine Seq.calln false (c1) Tryd.func36 gR_ok subG.nil (by rfl) (by rfl) rfl rfl rfl rfl rfl (by rfl) rfl VW_ NI_ NI_ FR_ ?_
    refine S_ ?_
    refine VC.cond (by rfl) (fun hb => ?_) (fun hb => ?_) <;> (try simp only [decide_eq_true_eq, decide_eq_false_iff_not, Bool.not_eq_true', Bool.not_eq_false'] at hb) <;> (try (exfalso; omega))
    refine S_ ?_
    exact retQ_ok (by rfl) [] nil_sub ⟨rfl, rfl⟩
/-- What Check returns. -/
def checkE (root : List UInt8) (n p : Int) (L leaves : List (List UInt8)) : Int :=
  if leaves.length = 0 ∨ n < 1 ∨ 1073741824 < n ∨ p < 0 ∨ n - leaves.length < p then 1 else if (Tree.rest p.toNat (p.toNat + leaves.length) 0 n.toNat).length = L.length ∧ valD p.toNat (p.toNat + leaves.length) L leaves 0 n.toNat 0 = root then 0 else 15
theorem check_ok (root : List UInt8) (hr : root.length = 16) (n p : Int) (L leaves : List (List UInt8)) (hl : LOk leaves) (hl2 : leaves.length ≤ 1000000000) (hL : DOk L) : Ok Tryd.prog 20 gK [] (argsK root n p L leaves) (fun r h' => r = .int .i64 (checkE root n p L leaves) ∧ h' = []) := by
  unfold checkE
  by_cases h : leaves.length = 0 ∨ n < 1 ∨ 1073741824 < n ∨ p < 0 ∨ n - leaves.length < p
  · rw [if_pos h]; exact check_no root n p L leaves hl2 hL.1 h
  · rw [if_neg h]
    obtain ⟨a, rfl⟩ : ∃ a : Nat, p = a := ⟨p.toNat, by omega⟩
    obtain ⟨b, rfl⟩ : ∃ b : Nat, n = b := ⟨n.toNat, by omega⟩
    exact check_yes root hr b a L leaves hl hl2 hL (by omega) (by omega) (by omega) (by omega) _ _ rfl rfl
theorem refCheck_ok (root : List UInt8) (hr : root.length = 16) (n p : Int) (L leaves : List (List UInt8)) (hl : LOk leaves) (hl2 : leaves.length ≤ 1000000000) (hL : DOk L) : Ok Tryd.prog 21 gR [] (argsK root n p L leaves) (fun r h' => r = .int .i64 (checkE root n p L leaves) ∧ h' = []) := by
  unfold checkE
  by_cases h : leaves.length = 0 ∨ n < 1 ∨ 1073741824 < n ∨ p < 0 ∨ n - leaves.length < p
  · rw [if_pos h]; exact refCheck_no root n p L leaves hl2 hL.1 h
  · rw [if_neg h]
    obtain ⟨a, rfl⟩ : ∃ a : Nat, p = a := ⟨p.toNat, by omega⟩
    obtain ⟨b, rfl⟩ : ∃ b : Nat, n = b := ⟨n.toNat, by omega⟩
    exact refCheck_yes root hr b a L leaves hl hl2 hL (by omega) (by omega) (by omega) (by omega) _ _ rfl rfl
end Go.Proofs.YtbphmbmdkojbnaaDoor
