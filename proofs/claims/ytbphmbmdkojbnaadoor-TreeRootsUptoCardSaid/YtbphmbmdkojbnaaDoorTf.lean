
/- tree.Prove. -/
import Derived.Test.YtbphmbmdkojbnaaDoorTe
import Derived.Test.YtbphmbmdkojbnaaDoorFe
set_option linter.unusedSimpArgs false
set_option linter.unusedVariables false
namespace Go.Proofs.YtbphmbmdkojbnaaDoor
open Go.V Go.RowKit Go.U Go.L
def digsO (m : Nat) (D : List (List UInt8)) : AV := .arr m 16 (fun i => digA (D.getD i []))
def proofA (n p : Nat) (nodes : AV) : AV := .pair (.int .i64 (n : Nat)) (.pair (.int .i64 (p : Nat)) (.pair nodes .nul))
/-- The objects of a proof that is being made. -/
abbrev pObj (n p k m : Nat) (D : List (List UInt8)) : Asc := [(0, proofA n p (.sl k [] 16 0 m)), (k, digsO m D)]
def argsP (l : List (List UInt8)) (a b p q : Nat) : AV := .pair (.int .i64 (a : Nat)) (.pair (.int .i64 (b : Nat)) (.pair (.rptr false (.int .i64 (p : Nat))) (.pair (.rptr false (.int .i64 (q : Nat))) (.pair (.ptr 0 []) (.pair (.rptr false (strs l)) .nul)))))
set_option maxRecDepth 10000 in
theorem stopProve_out (l : List (List UInt8)) (hl : LOk l) (N p q a n : Nat) (D : List (List UInt8)) (hD : D.length ≤ 1000000000) (hn : 1 ≤ n) (hal : a + n ≤ l.length) (h : a + n ≤ p ∨ q ≤ a) (hpq : p ≤ 1099511627776 ∧ q ≤ 1099511627776) :
    Ok Tryd.prog 33 gK (pObj N p 1 D.length D) (argsP l a (a + n) p q) (fun r h' => r = tA .nul true ∧ h' = pObj N p 9 (D.length + 1) (D ++ [rootD l a n])) := by
  have hl1 := hl.1
  refine Ok.of_vc tt_ok Tryd.func33 rfl rfl (by show 6 ≤ _; decide) 2 (hlt_ok (by rfl)) fun c0 => ?_
  refine S_ ?_
  refine Seq.join (X := Unit) (fun _ => ⟨[(10, .bool true), (9, .bool false), (8, .ptr 2 []), (5, .rptr false (strs l)), (4, .ptr 0 []), (3, .rptr false (.int .i64 (q : Nat))), (2, .rptr false (.int .i64 (p : Nat))), (1, .int .i64 ((a + n : Nat) : Int)), (0, .int .i64 (a : Nat))], [(2, .nul), (0, proofA N p (.sl 1 [] 16 0 D.length)), (1, digsO D.length D)], gK, 3⟩) (fun _ => True) ?_ fun _ _ => ?_
  · by_cases h1 : ((a + n : Nat) : Int) ≤ (p : Int)
    · refine Seq.same 14 (u' := .bool true) (by rfl) (congrArg AV.bool (decide_eq_true h1)) ?_
      refine S_ ?_
      refine ⟨(), trivial, ?_⟩
      refine Sim.less [] (by rfl) ?_ ?_ <;> (repeat' (first | exact EnvLe.nil | exact HeapLe.nil | with_reducible apply EnvLe.cons | with_reducible apply HeapLe.cons | (with_reducible refine RelA.int ?_; first | (refine Keep.mk ?_; first | with_reducible rfl | omega | decide) | skip) | exact rfl | exact ⟨rfl, rfl⟩ | (with_reducible refine RelA.rsl ?_; intro i hi) | (with_reducible refine RelA.arr ?_; intro i hi) | with_reducible refine RelA.pair ?_ ?_ | with_reducible refine RelA.rptr ?_ | (with_reducible refine RelA.rslw ?_; intro i hi) | (refine RelA.rsl ?_; intro i hi) | (refine RelA.rslw ?_; intro i hi) | (refine RelA.arr ?_; intro i hi) | refine RelA.pair ?_ ?_ | refine RelA.tup ?_ | ((first | refine RelA.rslL (by first | rfl | ((try simp only [List.length_take, List.length_drop, List.length_append, List.length_cons, List.length_nil, List.length_map, List.length_range]); omega)) ?_ | refine RelA.rslT (by first | rfl | ((try simp only [List.length_take, List.length_drop, List.length_append, List.length_cons, List.length_nil, List.length_map, List.length_range]); omega)) ?_ | refine RelA.arrL (by first | rfl | ((try simp only [List.length_take, List.length_drop, List.length_append, List.length_cons, List.length_nil, List.length_map, List.length_range]); omega)) ?_); intro i hi; (try simp only [List.length_take, List.length_drop] at hi); (try simp (disch := omega) only [getD_take, getD_drop, Nat.zero_add, Int.toNat_natCast])) | exact RelA.bif_int | refine RelA.fn ?_ ?_)) <;> (try with_reducible refine Keep.mk ?_)
    · refine Seq.same 14 (u' := .bool false) (by rfl) (congrArg AV.bool (decide_eq_false h1)) ?_
      have h2 : (q : Int) ≤ (a : Int) := by omega
      refine S_ ?_
      rw [decide_eq_true h2]
      refine ⟨(), trivial, ?_⟩
      refine Sim.less [] (by rfl) ?_ ?_ <;> (repeat' (first | exact EnvLe.nil | exact HeapLe.nil | with_reducible apply EnvLe.cons | with_reducible apply HeapLe.cons | (with_reducible refine RelA.int ?_; first | (refine Keep.mk ?_; first | with_reducible rfl | omega | decide) | skip) | exact rfl | exact ⟨rfl, rfl⟩ | (with_reducible refine RelA.rsl ?_; intro i hi) | (with_reducible refine RelA.arr ?_; intro i hi) | with_reducible refine RelA.pair ?_ ?_ | with_reducible refine RelA.rptr ?_ | (with_reducible refine RelA.rslw ?_; intro i hi) | (refine RelA.rsl ?_; intro i hi) | (refine RelA.rslw ?_; intro i hi) | (refine RelA.arr ?_; intro i hi) | refine RelA.pair ?_ ?_ | refine RelA.tup ?_ | ((first | refine RelA.rslL (by first | rfl | ((try simp only [List.length_take, List.length_drop, List.length_append, List.length_cons, List.length_nil, List.length_map, List.length_range]); omega)) ?_ | refine RelA.rslT (by first | rfl | ((try simp only [List.length_take, List.length_drop, List.length_append, List.length_cons, List.length_nil, List.length_map, List.length_range]); omega)) ?_ | refine RelA.arrL (by first | rfl | ((try simp only [List.length_take, List.length_drop, List.length_append, List.length_cons, List.length_nil, List.length_map, List.length_range]); omega)) ?_); intro i hi; (try simp only [List.length_take, List.length_drop] at hi); (try simp (disch := omega) only [getD_take, getD_drop, Nat.zero_add, Int.toNat_natCast])) | exact RelA.bif_int | refine RelA.fn ?_ ?_)) <;> (try with_reducible refine Keep.mk ?_)
  refine S_ ?_
  refine VC.cond (by rfl) (fun hb => ?_) (fun hb => ?_) <;> (try simp only [decide_eq_true_eq, decide_eq_false_iff_not, Bool.not_eq_true', Bool.not_eq_false'] at hb) <;> (try (exfalso; omega)) <;> (try (cases hb; done))
  refine S_ ?_
  refine VC.draw (mkP [(0, 0), (1, 1), (2, 0), (3, 0), (4, 0), (5, 28), (6, 60)]) [7, 8, 9] (by rfl) (by kernel_rfl) (by rfl) (by rfl) ?_
  refine D_ ?_
  refine DSeq.callp false (rootOf_ok l hl a n hn hal) Tryd.func27 gK_ok subG.refl (by rfl) (fastE (by rfl)) (fastH (by rfl)) (by rfl) (by rfl) rfl rfl rfl rfl rfl (by rfl) (by rfl) VW_ NI_ NI_ FR_ ?_
  have hX := rootD_length l a n hn
  generalize rootD l a n = X at *
  refine D_ ?_
  refine SQ_ ?_
  refine Seq.conv (s' := ⟨[(9, .bool false), (8, .ptr 2 [])], [(2, .nul), (0, proofA N p (.sl 9 [] 16 0 (D.length + 1))), (9, digsO (D.length + 1) (D ++ [X]))], gK, 10⟩) (by
    refine Sim.less [(9, 4)] (by rfl) ?_ ?_ <;> (repeat' (first | exact EnvLe.nil | exact HeapLe.nil | with_reducible apply EnvLe.cons | with_reducible apply HeapLe.cons | (with_reducible refine RelA.int ?_; first | (refine Keep.mk ?_; first | with_reducible rfl | omega | decide) | skip) | exact rfl | exact ⟨rfl, rfl⟩ | (with_reducible refine RelA.rsl ?_; intro i hi) | (with_reducible refine RelA.arr ?_; intro i hi) | with_reducible refine RelA.pair ?_ ?_ | with_reducible refine RelA.rptr ?_ | (with_reducible refine RelA.rslw ?_; intro i hi) | (refine RelA.rsl ?_; intro i hi) | (refine RelA.rslw ?_; intro i hi) | (refine RelA.arr ?_; intro i hi) | refine RelA.pair ?_ ?_ | refine RelA.tup ?_ | ((first | refine RelA.rslL (by first | rfl | ((try simp only [List.length_take, List.length_drop, List.length_append, List.length_cons, List.length_nil, List.length_map, List.length_range]); omega)) ?_ | refine RelA.rslT (by first | rfl | ((try simp only [List.length_take, List.length_drop, List.length_append, List.length_cons, List.length_nil, List.length_map, List.length_range]); omega)) ?_ | refine RelA.arrL (by first | rfl | ((try simp only [List.length_take, List.length_drop, List.length_append, List.length_cons, List.length_nil, List.length_map, List.length_range]); omega)) ?_); intro i hi; (try simp only [List.length_take, List.length_drop] at hi); (try simp (disch := omega) only [getD_take, getD_drop, Nat.zero_add, Int.toNat_natCast])) | exact RelA.bif_int | refine RelA.fn ?_ ?_)) <;> (try with_reducible refine Keep.mk ?_)
    exact RelA.of_eq (NoId.self (fun _ _ => trivial)) (joinF_snocG (F := digA) rfl hi rfl)) ?_
  refine S_ ?_
  exact retQ_ok (by rfl) (pObj N p 9 (D.length + 1) (D ++ [X])) (subL_ok ⟨rfl, rfl, trivial⟩) ⟨rfl, rfl⟩
set_option maxRecDepth 10000 in
theorem stopProve_in (l : List (List UInt8)) (N p q a n : Nat) (D : List (List UInt8)) (hn : 1 ≤ n) (h1 : p ≤ a) (h2 : a + n ≤ q) :
    Ok Tryd.prog 33 gK (pObj N p 1 D.length D) (argsP l a (a + n) p q) (fun r h' => r = tA .nul true ∧ h' = pObj N p 9 D.length D) := by
  refine Ok.of_vc tt_ok Tryd.func33 rfl rfl (by show 6 ≤ _; decide) 2 (hlt_ok (by rfl)) fun c0 => ?_
  refine S_ ?_
  refine Seq.same 14 (u' := .bool false) (by rfl) (congrArg AV.bool (decide_eq_false (by omega))) ?_
  refine S_ ?_
  refine VC.cond (by rfl) (fun hb => ?_) (fun hb => ?_) <;> (try simp only [decide_eq_true_eq, decide_eq_false_iff_not, Bool.not_eq_true', Bool.not_eq_false'] at hb) <;> (try (exfalso; omega))
  refine S_ ?_
  refine Seq.same 33 (u' := .bool true) (by rfl) (congrArg AV.bool (decide_eq_true (by omega))) ?_
  refine S_ ?_
  refine VC.cond (by rfl) (fun hb => ?_) (fun hb => ?_) <;> (try simp only [decide_eq_true_eq, decide_eq_false_iff_not, Bool.not_eq_true', Bool.not_eq_false'] at hb) <;> (try (exfalso; omega))
  refine VC.conv (s' := ⟨[(9, .bool false), (8, .ptr 2 [])], [(2, .nul), (0, proofA N p (.sl 9 [] 16 0 D.length)), (9, digsO D.length D)], gK, 10⟩) (by refine Sim.less [(9, 1)] (by rfl) ?_ ?_ <;> (repeat' (first | exact EnvLe.nil | exact HeapLe.nil | with_reducible apply EnvLe.cons | with_reducible apply HeapLe.cons | (with_reducible refine RelA.int ?_; first | (refine Keep.mk ?_; first | with_reducible rfl | omega | decide) | skip) | exact rfl | exact ⟨rfl, rfl⟩ | (with_reducible refine RelA.rsl ?_; intro i hi) | (with_reducible refine RelA.arr ?_; intro i hi) | with_reducible refine RelA.pair ?_ ?_ | with_reducible refine RelA.rptr ?_ | (with_reducible refine RelA.rslw ?_; intro i hi) | (refine RelA.rsl ?_; intro i hi) | (refine RelA.rslw ?_; intro i hi) | (refine RelA.arr ?_; intro i hi) | refine RelA.pair ?_ ?_ | refine RelA.tup ?_ | ((first | refine RelA.rslL (by first | rfl | ((try simp only [List.length_take, List.length_drop, List.length_append, List.length_cons, List.length_nil, List.length_map, List.length_range]); omega)) ?_ | refine RelA.rslT (by first | rfl | ((try simp only [List.length_take, List.length_drop, List.length_append, List.length_cons, List.length_nil, List.length_map, List.length_range]); omega)) ?_ | refine RelA.arrL (by first | rfl | ((try simp only [List.length_take, List.length_drop, List.length_append, List.length_cons, List.length_nil, List.length_map, List.length_range]); omega)) ?_); intro i hi; (try simp only [List.length_take, List.length_drop] at hi); (try simp (disch := omega) only [getD_take, getD_drop, Nat.zero_add, Int.toNat_natCast])) | exact RelA.bif_int | refine RelA.fn ?_ ?_)) <;> (try with_reducible refine Keep.mk ?_)) ?_
  refine S_ ?_
  exact retQ_ok (by rfl) (pObj N p 9 D.length D) (subL_ok ⟨rfl, rfl, trivial⟩) ⟨rfl, rfl⟩
set_option maxRecDepth 10000 in
theorem stopProve_no (l : List (List UInt8)) (N p q a n : Nat) (D : List (List UInt8)) (hn : 1 ≤ n) (h : ¬ (a + n ≤ p ∨ q ≤ a)) (h2 : ¬ (p ≤ a ∧ a + n ≤ q)) :
    Ok Tryd.prog 33 gK (pObj N p 1 D.length D) (argsP l a (a + n) p q) (fun r h' => r = tA .nul false ∧ h' = pObj N p 9 D.length D) := by
  refine Ok.of_vc tt_ok Tryd.func33 rfl rfl (by show 6 ≤ _; decide) 2 (hlt_ok (by rfl)) fun c0 => ?_
  refine S_ ?_
  refine Seq.same 14 (u' := .bool false) (by rfl) (congrArg AV.bool (decide_eq_false (by omega))) ?_
  refine S_ ?_
  refine VC.cond (by rfl) (fun hb => ?_) (fun hb => ?_) <;> (try simp only [decide_eq_true_eq, decide_eq_false_iff_not, Bool.not_eq_true', Bool.not_eq_false'] at hb) <;> (try (exfalso; omega))
  refine S_ ?_
  refine Seq.join (X := Unit) (fun _ => ⟨[(29, .bool false), (9, .bool false), (8, .ptr 2 [])], [(2, .nul), (0, proofA N p (.sl 9 [] 16 0 D.length)), (9, digsO D.length D)], gK, 10⟩) (fun _ => True) ?_ fun _ _ => ?_
  · by_cases h3 : ((p : Nat) : Int) ≤ (a : Int)
    · refine Seq.same 33 (u' := .bool true) (by rfl) (congrArg AV.bool (decide_eq_true h3)) ?_
      refine S_ ?_
      refine ⟨(), trivial, ?_⟩
      rw [decide_eq_false (show ¬ (((a + n : Nat) : Int) ≤ (q : Int)) by omega)]
      refine Sim.less [(9, 1)] (by rfl) ?_ ?_ <;> (repeat' (first | exact EnvLe.nil | exact HeapLe.nil | with_reducible apply EnvLe.cons | with_reducible apply HeapLe.cons | (with_reducible refine RelA.int ?_; first | (refine Keep.mk ?_; first | with_reducible rfl | omega | decide) | skip) | exact rfl | exact ⟨rfl, rfl⟩ | (with_reducible refine RelA.rsl ?_; intro i hi) | (with_reducible refine RelA.arr ?_; intro i hi) | with_reducible refine RelA.pair ?_ ?_ | with_reducible refine RelA.rptr ?_ | (with_reducible refine RelA.rslw ?_; intro i hi) | (refine RelA.rsl ?_; intro i hi) | (refine RelA.rslw ?_; intro i hi) | (refine RelA.arr ?_; intro i hi) | refine RelA.pair ?_ ?_ | refine RelA.tup ?_ | ((first | refine RelA.rslL (by first | rfl | ((try simp only [List.length_take, List.length_drop, List.length_append, List.length_cons, List.length_nil, List.length_map, List.length_range]); omega)) ?_ | refine RelA.rslT (by first | rfl | ((try simp only [List.length_take, List.length_drop, List.length_append, List.length_cons, List.length_nil, List.length_map, List.length_range]); omega)) ?_ | refine RelA.arrL (by first | rfl | ((try simp only [List.length_take, List.length_drop, List.length_append, List.length_cons, List.length_nil, List.length_map, List.length_range]); omega)) ?_); intro i hi; (try simp only [List.length_take, List.length_drop] at hi); (try simp (disch := omega) only [getD_take, getD_drop, Nat.zero_add, Int.toNat_natCast])) | exact RelA.bif_int | refine RelA.fn ?_ ?_)) <;> (try with_reducible refine Keep.mk ?_)
    · refine Seq.same 33 (u' := .bool false) (by rfl) (congrArg AV.bool (decide_eq_false h3)) ?_
      refine S_ ?_
      refine ⟨(), trivial, ?_⟩
      refine Sim.less [(9, 1)] (by rfl) ?_ ?_ <;> (repeat' (first | exact EnvLe.nil | exact HeapLe.nil | with_reducible apply EnvLe.cons | with_reducible apply HeapLe.cons | (with_reducible refine RelA.int ?_; first | (refine Keep.mk ?_; first | with_reducible rfl | omega | decide) | skip) | exact rfl | exact ⟨rfl, rfl⟩ | (with_reducible refine RelA.rsl ?_; intro i hi) | (with_reducible refine RelA.arr ?_; intro i hi) | with_reducible refine RelA.pair ?_ ?_ | with_reducible refine RelA.rptr ?_ | (with_reducible refine RelA.rslw ?_; intro i hi) | (refine RelA.rsl ?_; intro i hi) | (refine RelA.rslw ?_; intro i hi) | (refine RelA.arr ?_; intro i hi) | refine RelA.pair ?_ ?_ | refine RelA.tup ?_ | ((first | refine RelA.rslL (by first | rfl | ((try simp only [List.length_take, List.length_drop, List.length_append, List.length_cons, List.length_nil, List.length_map, List.length_range]); omega)) ?_ | refine RelA.rslT (by first | rfl | ((try simp only [List.length_take, List.length_drop, List.length_append, List.length_cons, List.length_nil, List.length_map, List.length_range]); omega)) ?_ | refine RelA.arrL (by first | rfl | ((try simp only [List.length_take, List.length_drop, List.length_append, List.length_cons, List.length_nil, List.length_map, List.length_range]); omega)) ?_); intro i hi; (try simp only [List.length_take, List.length_drop] at hi); (try simp (disch := omega) only [getD_take, getD_drop, Nat.zero_add, Int.toNat_natCast])) | exact RelA.bif_int | refine RelA.fn ?_ ?_)) <;> (try with_reducible refine Keep.mk ?_)
  refine S_ ?_
  refine VC.cond (by rfl) (fun hb => ?_) (fun hb => ?_) <;> (try simp only [decide_eq_true_eq, decide_eq_false_iff_not, Bool.not_eq_true', Bool.not_eq_false'] at hb) <;> (try (exfalso; omega)) <;> (try (cases hb; done))
  refine S_ ?_
  exact retQ_ok (by rfl) (pObj N p 9 D.length D) (subL_ok ⟨rfl, rfl, trivial⟩) ⟨rfl, rfl⟩
theorem joinProve_ok : Ok Tryd.prog 34 gK [] (.pair .nul (.pair .nul .nul)) (fun r h' => r = .nul ∧ h' = []) := by
  refine Ok.of_vc tt_ok Tryd.func34 rfl rfl (by show 2 ≤ _; decide) 0 (fun i av h => by cases h) fun c0 => ?_
  refine S_ ?_
  exact retQ_ok (by rfl) [] nil_sub ⟨rfl, rfl⟩
end Go.Proofs.YtbphmbmdkojbnaaDoor
