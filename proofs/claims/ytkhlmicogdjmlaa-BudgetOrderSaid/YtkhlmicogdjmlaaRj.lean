
/- Budgets: New. -/
import Derived.Test.YtkhlmicogdjmlaaRi
set_option linter.unusedSimpArgs false
set_option linter.unusedVariables false
namespace Go.Proofs.Ytkhlmicogdjmlaa
open Go.V Go.RowKit Go.L Go.Lx Go.Rt Go.Bg
set_option maxRecDepth 10000
set_option maxHeartbeats 4000000
theorem rep_get (n i : Nat) : (List.replicate n false).getD i false = false := by
  rw [List.getD_eq_getElem?_getD, List.getElem?_replicate]
  split <;> rfl
theorem new_yes (P : List Rq) (W : List Int) (O : List Rq) (hrP : ∀ r ∈ P, R64 r) (hrO : ∀ r ∈ O, R64 r) (he : newE P W O = 0) :
    Ok Try.prog 12 [] [] (.pair (rlV P) (.pair (liV W) (.pair (rlV O) .nul))) (fun v h' => v = .tup (.pair (.ptr 0 []) (.pair (.int .i64 0) .nul)) ∧ h' = bH (newB P W O)) := by
  unfold newE at he
  by_cases h1 : 256 < P.length ∨ 16 < O.length
  · rw [if_pos h1] at he; cases he
  rw [if_neg h1] at he
  have hno : ¬ (W.length ≠ P.length ∨ (W.any fun x => decide (x < 0 ∨ (O.length : Int) ≤ x)) = true ∨ (P.any fun r => !isCost r) = true ∨ (O.any fun r => !isCost r) = true) := fun h => by rw [if_pos h] at he; cases he
  have g1 : W.length = P.length := Decidable.byContradiction fun h => hno (.inl h)
  have g2 : ¬ (W.any fun x => decide (x < 0 ∨ (O.length : Int) ≤ x)) = true := fun h => hno (.inr (.inl h))
  have g3 : ¬ (P.any fun r => !isCost r) = true := fun h => hno (.inr (.inr (.inl h)))
  have g4 : ¬ (O.any fun r => !isCost r) = true := fun h => hno (.inr (.inr (.inr h)))
  rw [Bool.not_eq_true] at g2 g3 g4
  have c2 := conW_ok O (by omega) W (by omega)
  have c3 := conR_ok P (by omega) hrP
  have c4 := conR_ok O (by omega) hrO
  rw [g2] at c2
  rw [g3] at c3
  rw [g4] at c4
  have k1 := accounts_ok P (by omega)
  have k2 := accounts_ok O (by omega)
  have k3 := cloneI_ok W (by omega)
  refine Ok.of_vcC tt_ok Try.func12 rfl rfl (by show 3 ≤ _; decide) 0 (hlt_ok (by rfl)) fun c0 => ?_
  repeat' (first | (refine SS_ ?_) | (refine VC.drawn2 (id := 6) [(0, 0), (1, 1), (2, 0), (3, 7), (4, 0), (5, 31), (6, 0), (7, 64), (8, 192), (9, 511), (10, 1023), (11, 2047)] [12] (by rfl) (by kernel_rfl) (by rfl) (by rfl) ?_) | (refine Seq.callo false [] [] (.bool false) ([(0, rlV O)]) 1 (c2) Try.func34 GOk.nil subG.nil (by rfl) (by rfl) rfl rfl rfl rfl rfl (by rfl) rfl (by rfl) (by rfl) (by rfl) (by rfl) VW_ NI_ R_ (noFrL_ok NI_) BK_ ?_) | (refine Seq.callp false (c3) Try.func36 GOk.nil subG.nil (by rfl) (by rfl) rfl rfl rfl rfl rfl (by rfl) rfl VW_ NI_ NI_ FR_ ?_) | (refine Seq.callp false (c4) Try.func36 GOk.nil subG.nil (by rfl) (by rfl) rfl rfl rfl rfl rfl (by rfl) rfl VW_ NI_ NI_ FR_ ?_) | (refine DSeq.callr false [] [(1, 0)] (.sl 1 [] 4 0 P.length) ([(1, acsO (accs P))]) ([(1, acsO (accs P))]) 2 (k1) Try.func37 GOk.nil subG.nil (by rfl) (fastE (by rfl)) (fastH (by rfl)) (by rfl) (by rfl) rfl rfl rfl rfl rfl (by rfl) (by rfl) (by rfl) (by rfl) (by rfl) (by repeat (first | exact trivial | refine ⟨rfl, ?_⟩)) (by rfl) (by rfl) (by rfl) VW_ NI_ R_ (noFrL_ok NI_) BK_ ?_) | (refine DSeq.callr false [] [(2, 0)] (.sl 2 [] 4 0 O.length) ([(2, acsO (accs O))]) ([(2, acsO (accs O))]) 3 (k2) Try.func37 GOk.nil subG.nil (by rfl) (fastE (by rfl)) (fastH (by rfl)) (by rfl) (by rfl) rfl rfl rfl rfl rfl (by rfl) (by rfl) (by rfl) (by rfl) (by rfl) (by repeat (first | exact trivial | refine ⟨rfl, ?_⟩)) (by rfl) (by rfl) (by rfl) VW_ NI_ R_ (noFrL_ok NI_) BK_ ?_) | (refine DSeq.callr false [] [(3, 0)] (.sl 3 [] 1 0 W.length) ([(3, liO W)]) ([(3, liO W)]) 4 (k3) Try.func38 GOk.nil subG.nil (by rfl) (fastE (by rfl)) (fastH (by rfl)) (by rfl) (by rfl) rfl rfl rfl rfl rfl (by rfl) (by rfl) (by rfl) (by rfl) (by rfl) (by repeat (first | exact trivial | refine ⟨rfl, ?_⟩)) (by rfl) (by rfl) (by rfl) VW_ NI_ R_ (noFrL_ok NI_) BK_ ?_) | (refine Seq.lit (by rfl) (by rfl) LT2_ ?_) | (refine VC.litT (by rfl) LTR_ ?_) | (refine VC.litF (by rfl) LFA_ ?_) | (refine DD_ ?_) | (refine DSeq.lit2 (by rfl) (by rfl) (by rfl) LT2_ (by rfl) ?_) | ((refine retQ_ok (by rfl) [] nil_sub ⟨?_, rfl⟩); try rfl) | (refine Seq.litC (by rfl) (by rfl) (fun hb => ?_) (fun hb => ?_) <;> (fail_if_success (with_reducible have := litT_ hb)) <;> (fail_if_success (with_reducible have := litF_ hb)) <;> (try simp only [decide_eq_true_eq, decide_eq_false_iff_not, Bool.not_eq_true', Bool.not_eq_false', Bool.or_eq_true, Bool.or_eq_false_iff, Bool.and_eq_true, Bool.and_eq_false_iff] at hb) <;> (try (exfalso; first | omega | (cases hb; done)))) | (refine VC.cond (by rfl) (fun hb => ?_) (fun hb => ?_) <;> (fail_if_success (with_reducible have := litT_ hb)) <;> (fail_if_success (with_reducible have := litF_ hb)) <;> (try simp only [decide_eq_true_eq, decide_eq_false_iff_not, Bool.not_eq_true', Bool.not_eq_false', Bool.or_eq_true, Bool.or_eq_false_iff, Bool.and_eq_true, Bool.and_eq_false_iff] at hb) <;> (try (exfalso; first | omega | (cases hb; done)))) | (refine DSeq.litC2 (by rfl) (by rfl) (by rfl) (by rfl) (by rfl) (fun hb => ?_) (fun hb => ?_) <;> (fail_if_success (with_reducible have := litT_ hb)) <;> (fail_if_success (with_reducible have := litF_ hb)) <;> (try simp only [decide_eq_true_eq, decide_eq_false_iff_not, Bool.not_eq_true', Bool.not_eq_false', Bool.or_eq_true, Bool.or_eq_false_iff, Bool.and_eq_true, Bool.and_eq_false_iff] at hb) <;> (try (exfalso; first | omega | (cases hb; done)))))
  have e1 : bH (newB P W O) = [(0, bkA P.length O.length W.length P.length), (1, .arr P.length 4 (fun i => accA ((accs P).getD i accZ))), (2, .arr O.length 4 (fun i => accA ((accs O).getD i accZ))), (3, liO W), (4, .arr P.length 1 (fun i => .bool ((List.replicate P.length false).getD i false)))] := by
    show [(0, bkA (accs P).length (accs O).length W.length (List.replicate P.length false).length), (1, .arr (accs P).length 4 (fun i => accA ((accs P).getD i accZ))), (2, .arr (accs O).length 4 (fun i => accA ((accs O).getD i accZ))), (3, liO W), (4, .arr (List.replicate P.length false).length 1 (fun i => .bool ((List.replicate P.length false).getD i false)))] = _
    rw [accs_len, accs_len, List.length_replicate]
  rw [e1]
  refine retC_mk [(6, .ptr 0 []), (7, .int .i64 0)] [(0, bkA P.length O.length W.length P.length), (1, .arr P.length 4 (fun i => accA ((accs P).getD i accZ))), (2, .arr O.length 4 (fun i => accA ((accs O).getD i accZ))), (3, liO W), (4, .arr P.length 1 (fun i => .bool ((List.replicate P.length false).getD i false)))] 6 ?_ (retQ_ok (by rfl) [(0, bkA P.length O.length W.length P.length), (1, .arr P.length 4 (fun i => accA ((accs P).getD i accZ))), (2, .arr O.length 4 (fun i => accA ((accs O).getD i accZ))), (3, liO W), (4, .arr P.length 1 (fun i => .bool ((List.replicate P.length false).getD i false)))] (fun i av h => h) ⟨rfl, rfl⟩)
  refine Sim.less [(0, 5)] (by rfl) ?_ ?_ <;> (repeat' (first | exact EnvLe.nil | exact HeapLe.nil | with_reducible apply EnvLe.cons | with_reducible apply HeapLe.cons | (with_reducible refine RelA.int ?_; first | (refine Keep.mk ?_; first | with_reducible rfl | omega | decide) | skip) | exact rfl | exact ⟨rfl, rfl⟩ | (with_reducible refine RelA.rsl ?_; intro i hi) | (with_reducible refine RelA.arr ?_; intro i hi) | with_reducible refine RelA.pair ?_ ?_ | with_reducible refine RelA.rptr ?_ | (with_reducible refine RelA.rslw ?_; intro i hi) | (refine RelA.rsl ?_; intro i hi) | (refine RelA.rslw ?_; intro i hi) | (refine RelA.arr ?_; intro i hi) | refine RelA.pair ?_ ?_ | refine RelA.tup ?_ | ((first | refine RelA.rslL (by first | rfl | ((try simp only [List.length_take, List.length_drop, List.length_append, List.length_cons, List.length_nil, List.length_map, List.length_range]); omega)) ?_ | refine RelA.rslT (by first | rfl | ((try simp only [List.length_take, List.length_drop, List.length_append, List.length_cons, List.length_nil, List.length_map, List.length_range]); omega)) ?_ | refine RelA.arrL (by first | rfl | ((try simp only [List.length_take, List.length_drop, List.length_append, List.length_cons, List.length_nil, List.length_map, List.length_range]); omega)) ?_); intro i hi; (try simp only [List.length_take, List.length_drop] at hi); (try simp (disch := omega) only [getD_take, getD_drop, Nat.zero_add, Int.toNat_natCast])) | exact RelA.bif_int | refine RelA.fn ?_ ?_ | exact NoId.self (by first | ((repeat' (first | exact trivial | exact rfl | refine NoFr.bif ?_ ?_ | refine NoId.bif ?_ ?_ | refine AllFr.bif ?_ ?_ | (intro i hi) | (refine ⟨?_, ?_⟩) | (intro e; cases e; done))); done) | fail))) <;> (try with_reducible refine Keep.mk ?_)
  · show RelA _ _ _ (.arr (accs P).length 4 _)
    rw [accs_len]; exact NoId.self NI_
  · show RelA _ _ _ (.arr (accs O).length 4 _)
    rw [accs_len]; exact NoId.self NI_
  · rw [rep_get]; exact rfl
end Go.Proofs.Ytkhlmicogdjmlaa
