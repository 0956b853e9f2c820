
/- Budgets: costs made of numbers. -/
import Derived.Test.YtkhlmicogdjmlaaRq
set_option linter.unusedSimpArgs false
set_option linter.unusedVariables false
namespace Go.Bg
open Go.Rt Go.Lx
def qs : List Int := [1, 2, 3, 4, 6]
def costV (n : Int) : Rq := mkV (aroundI (Int.tdiv n 5) 7) (qs.getD (aroundI n 5).toNat 0)
theorem qs_le {i : Nat} (h : i < 5) : 1 ≤ qs.getD i 0 ∧ qs.getD i 0 ≤ 6 := by
  match i, h with
  | 0, _ => decide
  | 1, _ => decide
  | 2, _ => decide
  | 3, _ => decide
  | 4, _ => decide
end Go.Bg
namespace Go.Proofs.Ytkhlmicogdjmlaa
open Go.V Go.RowKit Go.L Go.Lx Go.Rt Go.Bg
set_option maxRecDepth 10000
set_option maxHeartbeats 4000000
theorem wrap_id {n : Int} (h : I64 n) : IntKind.i64.wrap n = n := by
  obtain ⟨h1, h2⟩ := h
  rcases Classical.em (0 ≤ n) with h0 | h0
  · exact wrap_i64_big h0 h2
  · have hw : ∀ m : Int, IntKind.i64.wrap m = if 9223372036854775808 ≤ m % 18446744073709551616 then m % 18446744073709551616 - 18446744073709551616 else m % 18446744073709551616 := fun m => by simp [IntKind.wrap, IntKind.bits, IntKind.signed]
    rw [hw]
    split <;> omega
theorem cost_ok (n : Int) (hn : I64 n) : Ok Try.prog 28 [] [] (.pair (.int .i64 n) .nul) (fun r h' => r = ratA (costV n) ∧ h' = []) := by
  have z1 := lAround_ok n 5 hn
  have b1 := around_lt n 5 (by decide)
  have hq : I64 (Int.tdiv n 5) := by
    obtain ⟨h1, h2⟩ := hn
    rcases Classical.em (n < 0) with h | h
    · have e : Int.tdiv n 5 = -((-n) / 5) := by
        rw [show n = -(-n) by omega, Int.neg_tdiv, Int.tdiv_eq_ediv_of_nonneg (by omega)]; rw [Int.neg_neg]
      rw [e]; constructor <;> omega
    · rw [Int.tdiv_eq_ediv_of_nonneg (by omega)]; constructor <;> omega
  have z2 := lAround_ok (Int.tdiv n 5) 7 hq
  have b2 := around_lt (Int.tdiv n 5) 7 (by decide)
  have hqs := qs_le (i := (aroundI n 5).toNat) (by omega)
  have z3 := rmake_ok (aroundI (Int.tdiv n 5) 7) (qs.getD (aroundI n 5).toNat 0) ⟨by omega, by omega⟩ ⟨by omega, by omega⟩
  unfold costV
  generalize mkV (aroundI (Int.tdiv n 5) 7) (qs.getD (aroundI n 5).toNat 0) = V at *
  generalize mkErr (aroundI (Int.tdiv n 5) 7) (qs.getD (aroundI n 5).toNat 0) = E at *
  generalize aroundI (Int.tdiv n 5) 7 = y at *
  generalize aroundI n 5 = x at *
  have hx : x = 0 ∨ x = 1 ∨ x = 2 ∨ x = 3 ∨ x = 4 := by omega
  have hn' := hn
  obtain ⟨hn1, hn2⟩ := hn'
  have fin : ∀ q : Int, qs.getD x.toNat 0 = q → Ok Try.prog 53 [] [] (.pair (.int .i64 y) (.pair (.int .i64 q) .nul)) (fun r h' => r = .tup (.pair (ratA V) (.pair (.int .i64 E) .nul)) ∧ h' = []) := fun q hq => hq ▸ z3
  clear z3
  have hwr := wrap_id hq
  rcases hx with rfl | rfl | rfl | rfl | rfl
  · have z3 := fin 1 rfl
    clear fin
    refine Ok.of_vcC tt_ok Try.func28 rfl rfl (by show 1 ≤ _; decide) 0 (hlt_ok (by rfl)) fun c0 => ?_
    repeat' (first | (refine SS_ ?_) | (refine Seq.callp false (z1) Try.func10 GOk.nil subG.nil (by rfl) (by rfl) rfl rfl rfl rfl rfl (by rfl) rfl VW_ NI_ NI_ FR_ ?_) | (refine Seq.callp false (z2) Try.func10 GOk.nil subG.nil (by rfl) (by rfl) rfl rfl rfl rfl rfl (by rfl) rfl VW_ NI_ NI_ FR_ ?_) | (refine Seq.callp false (z3) Try.func53 GOk.nil subG.nil (by rfl) (by rfl) rfl rfl rfl rfl rfl (by rfl) rfl VW_ NI_ NI_ FR_ ?_) | (refine Seq.ev0 false tt_ok (by rfl) (by (first | exact trivial | exact u8_in _ rfl | exact u32_in _ rfl | ((with_reducible refine AllP.guard ?_); simp only [AllP, inI, fitV, maxK, inK, inbL, inb, List.append, List.cons_append, List.nil_append, true_and, and_true]; first | done | omega))) rfl rfl rfl (Seq.same 13 (u' := .int .i64 (Int.tdiv n 5)) (by rfl) (congrArg (AV.int .i64) hwr) ?_)) | (refine Seq.lit (by rfl) (by rfl) LT2_ ?_) | (refine VC.litT (by rfl) LTR_ ?_) | (refine VC.litF (by rfl) LFA_ ?_) | (refine DD_ ?_) | (refine DSeq.lit2 (by rfl) (by rfl) (by rfl) LT2_ (by rfl) ?_) | ((refine retQ_ok (by rfl) [] nil_sub ⟨?_, rfl⟩); try rfl) | (refine Seq.litC (by rfl) (by rfl) (fun hb => ?_) (fun hb => ?_) <;> (fail_if_success (with_reducible have := litT_ hb)) <;> (fail_if_success (with_reducible have := litF_ hb)) <;> (try simp only [decide_eq_true_eq, decide_eq_false_iff_not, Bool.not_eq_true', Bool.not_eq_false', Bool.or_eq_true, Bool.or_eq_false_iff, Bool.and_eq_true, Bool.and_eq_false_iff] at hb) <;> (try (exfalso; first | omega | (cases hb; done)))) | (refine VC.cond (by rfl) (fun hb => ?_) (fun hb => ?_) <;> (fail_if_success (with_reducible have := litT_ hb)) <;> (fail_if_success (with_reducible have := litF_ hb)) <;> (try simp only [decide_eq_true_eq, decide_eq_false_iff_not, Bool.not_eq_true', Bool.not_eq_false', Bool.or_eq_true, Bool.or_eq_false_iff, Bool.and_eq_true, Bool.and_eq_false_iff] at hb) <;> (try (exfalso; first | omega | (cases hb; done)))) | (refine DSeq.litC2 (by rfl) (by rfl) (by rfl) (by rfl) (by rfl) (fun hb => ?_) (fun hb => ?_) <;> (fail_if_success (with_reducible have := litT_ hb)) <;> (fail_if_success (with_reducible have := litF_ hb)) <;> (try simp only [decide_eq_true_eq, decide_eq_false_iff_not, Bool.not_eq_true', Bool.not_eq_false', Bool.or_eq_true, Bool.or_eq_false_iff, Bool.and_eq_true, Bool.and_eq_false_iff] at hb) <;> (try (exfalso; first | omega | (cases hb; done)))))
    exact retC_mk [(2, .ptr 0 [])] [(0, ratA V)] 3 (Sim.less [] (by rfl) R_ R_) (retQ_ok (by rfl) [] nil_sub ⟨rfl, rfl⟩)
  · have z3 := fin 2 rfl
    clear fin
    refine Ok.of_vcC tt_ok Try.func28 rfl rfl (by show 1 ≤ _; decide) 0 (hlt_ok (by rfl)) fun c0 => ?_
    repeat' (first | (refine SS_ ?_) | (refine Seq.callp false (z1) Try.func10 GOk.nil subG.nil (by rfl) (by rfl) rfl rfl rfl rfl rfl (by rfl) rfl VW_ NI_ NI_ FR_ ?_) | (refine Seq.callp false (z2) Try.func10 GOk.nil subG.nil (by rfl) (by rfl) rfl rfl rfl rfl rfl (by rfl) rfl VW_ NI_ NI_ FR_ ?_) | (refine Seq.callp false (z3) Try.func53 GOk.nil subG.nil (by rfl) (by rfl) rfl rfl rfl rfl rfl (by rfl) rfl VW_ NI_ NI_ FR_ ?_) | (refine Seq.ev0 false tt_ok (by rfl) (by (first | exact trivial | exact u8_in _ rfl | exact u32_in _ rfl | ((with_reducible refine AllP.guard ?_); simp only [AllP, inI, fitV, maxK, inK, inbL, inb, List.append, List.cons_append, List.nil_append, true_and, and_true]; first | done | omega))) rfl rfl rfl (Seq.same 13 (u' := .int .i64 (Int.tdiv n 5)) (by rfl) (congrArg (AV.int .i64) hwr) ?_)) | (refine Seq.lit (by rfl) (by rfl) LT2_ ?_) | (refine VC.litT (by rfl) LTR_ ?_) | (refine VC.litF (by rfl) LFA_ ?_) | (refine DD_ ?_) | (refine DSeq.lit2 (by rfl) (by rfl) (by rfl) LT2_ (by rfl) ?_) | ((refine retQ_ok (by rfl) [] nil_sub ⟨?_, rfl⟩); try rfl) | (refine Seq.litC (by rfl) (by rfl) (fun hb => ?_) (fun hb => ?_) <;> (fail_if_success (with_reducible have := litT_ hb)) <;> (fail_if_success (with_reducible have := litF_ hb)) <;> (try simp only [decide_eq_true_eq, decide_eq_false_iff_not, Bool.not_eq_true', Bool.not_eq_false', Bool.or_eq_true, Bool.or_eq_false_iff, Bool.and_eq_true, Bool.and_eq_false_iff] at hb) <;> (try (exfalso; first | omega | (cases hb; done)))) | (refine VC.cond (by rfl) (fun hb => ?_) (fun hb => ?_) <;> (fail_if_success (with_reducible have := litT_ hb)) <;> (fail_if_success (with_reducible have := litF_ hb)) <;> (try simp only [decide_eq_true_eq, decide_eq_false_iff_not, Bool.not_eq_true', Bool.not_eq_false', Bool.or_eq_true, Bool.or_eq_false_iff, Bool.and_eq_true, Bool.and_eq_false_iff] at hb) <;> (try (exfalso; first | omega | (cases hb; done)))) | (refine DSeq.litC2 (by rfl) (by rfl) (by rfl) (by rfl) (by rfl) (fun hb => ?_) (fun hb => ?_) <;> (fail_if_success (with_reducible have := litT_ hb)) <;> (fail_if_success (with_reducible have := litF_ hb)) <;> (try simp only [decide_eq_true_eq, decide_eq_false_iff_not, Bool.not_eq_true', Bool.not_eq_false', Bool.or_eq_true, Bool.or_eq_false_iff, Bool.and_eq_true, Bool.and_eq_false_iff] at hb) <;> (try (exfalso; first | omega | (cases hb; done)))))
    exact retC_mk [(2, .ptr 0 [])] [(0, ratA V)] 3 (Sim.less [] (by rfl) R_ R_) (retQ_ok (by rfl) [] nil_sub ⟨rfl, rfl⟩)
  · have z3 := fin 3 rfl
    clear fin
    refine Ok.of_vcC tt_ok Try.func28 rfl rfl (by show 1 ≤ _; decide) 0 (hlt_ok (by rfl)) fun c0 => ?_
    repeat' (first | (refine SS_ ?_) | (refine Seq.callp false (z1) Try.func10 GOk.nil subG.nil (by rfl) (by rfl) rfl rfl rfl rfl rfl (by rfl) rfl VW_ NI_ NI_ FR_ ?_) | (refine Seq.callp false (z2) Try.func10 GOk.nil subG.nil (by rfl) (by rfl) rfl rfl rfl rfl rfl (by rfl) rfl VW_ NI_ NI_ FR_ ?_) | (refine Seq.callp false (z3) Try.func53 GOk.nil subG.nil (by rfl) (by rfl) rfl rfl rfl rfl rfl (by rfl) rfl VW_ NI_ NI_ FR_ ?_) | (refine Seq.ev0 false tt_ok (by rfl) (by (first | exact trivial | exact u8_in _ rfl | exact u32_in _ rfl | ((with_reducible refine AllP.guard ?_); simp only [AllP, inI, fitV, maxK, inK, inbL, inb, List.append, List.cons_append, List.nil_append, true_and, and_true]; first | done | omega))) rfl rfl rfl (Seq.same 13 (u' := .int .i64 (Int.tdiv n 5)) (by rfl) (congrArg (AV.int .i64) hwr) ?_)) | (refine Seq.lit (by rfl) (by rfl) LT2_ ?_) | (refine VC.litT (by rfl) LTR_ ?_) | (refine VC.litF (by rfl) LFA_ ?_) | (refine DD_ ?_) | (refine DSeq.lit2 (by rfl) (by rfl) (by rfl) LT2_ (by rfl) ?_) | ((refine retQ_ok (by rfl) [] nil_sub ⟨?_, rfl⟩); try rfl) | (refine Seq.litC (by rfl) (by rfl) (fun hb => ?_) (fun hb => ?_) <;> (fail_if_success (with_reducible have := litT_ hb)) <;> (fail_if_success (with_reducible have := litF_ hb)) <;> (try simp only [decide_eq_true_eq, decide_eq_false_iff_not, Bool.not_eq_true', Bool.not_eq_false', Bool.or_eq_true, Bool.or_eq_false_iff, Bool.and_eq_true, Bool.and_eq_false_iff] at hb) <;> (try (exfalso; first | omega | (cases hb; done)))) | (refine VC.cond (by rfl) (fun hb => ?_) (fun hb => ?_) <;> (fail_if_success (with_reducible have := litT_ hb)) <;> (fail_if_success (with_reducible have := litF_ hb)) <;> (try simp only [decide_eq_true_eq, decide_eq_false_iff_not, Bool.not_eq_true', Bool.not_eq_false', Bool.or_eq_true, Bool.or_eq_false_iff, Bool.and_eq_true, Bool.and_eq_false_iff] at hb) <;> (try (exfalso; first | omega | (cases hb; done)))) | (refine DSeq.litC2 (by rfl) (by rfl) (by rfl) (by rfl) (by rfl) (fun hb => ?_) (fun hb => ?_) <;> (fail_if_success (with_reducible have := litT_ hb)) <;> (fail_if_success (with_reducible have := litF_ hb)) <;> (try simp only [decide_eq_true_eq, decide_eq_false_iff_not, Bool.not_eq_true', Bool.not_eq_false', Bool.or_eq_true, Bool.or_eq_false_iff, Bool.and_eq_true, Bool.and_eq_false_iff] at hb) <;> (try (exfalso; first | omega | (cases hb; done)))))
    exact retC_mk [(2, .ptr 0 [])] [(0, ratA V)] 3 (Sim.less [] (by rfl) R_ R_) (retQ_ok (by rfl) [] nil_sub ⟨rfl, rfl⟩)
  · have z3 := fin 4 rfl
    clear fin
    refine Ok.of_vcC tt_ok Try.func28 rfl rfl (by show 1 ≤ _; decide) 0 (hlt_ok (by rfl)) fun c0 => ?_
    repeat' (first | (refine SS_ ?_) | (refine Seq.callp false (z1) Try.func10 GOk.nil subG.nil (by rfl) (by rfl) rfl rfl rfl rfl rfl (by rfl) rfl VW_ NI_ NI_ FR_ ?_) | (refine Seq.callp false (z2) Try.func10 GOk.nil subG.nil (by rfl) (by rfl) rfl rfl rfl rfl rfl (by rfl) rfl VW_ NI_ NI_ FR_ ?_) | (refine Seq.callp false (z3) Try.func53 GOk.nil subG.nil (by rfl) (by rfl) rfl rfl rfl rfl rfl (by rfl) rfl VW_ NI_ NI_ FR_ ?_) | (refine Seq.ev0 false tt_ok (by rfl) (by (first | exact trivial | exact u8_in _ rfl | exact u32_in _ rfl | ((with_reducible refine AllP.guard ?_); simp only [AllP, inI, fitV, maxK, inK, inbL, inb, List.append, List.cons_append, List.nil_append, true_and, and_true]; first | done | omega))) rfl rfl rfl (Seq.same 13 (u' := .int .i64 (Int.tdiv n 5)) (by rfl) (congrArg (AV.int .i64) hwr) ?_)) | (refine Seq.lit (by rfl) (by rfl) LT2_ ?_) | (refine VC.litT (by rfl) LTR_ ?_) | (refine VC.litF (by rfl) LFA_ ?_) | (refine DD_ ?_) | (refine DSeq.lit2 (by rfl) (by rfl) (by rfl) LT2_ (by rfl) ?_) | ((refine retQ_ok (by rfl) [] nil_sub ⟨?_, rfl⟩); try rfl) | (refine Seq.litC (by rfl) (by rfl) (fun hb => ?_) (fun hb => ?_) <;> (fail_if_success (with_reducible have := litT_ hb)) <;> (fail_if_success (with_reducible have := litF_ hb)) <;> (try simp only [decide_eq_true_eq, decide_eq_false_iff_not, Bool.not_eq_true', Bool.not_eq_false', Bool.or_eq_true, Bool.or_eq_false_iff, Bool.and_eq_true, Bool.and_eq_false_iff] at hb) <;> (try (exfalso; first | omega | (cases hb; done)))) | (refine VC.cond (by rfl) (fun hb => ?_) (fun hb => ?_) <;> (fail_if_success (with_reducible have := litT_ hb)) <;> (fail_if_success (with_reducible have := litF_ hb)) <;> (try simp only [decide_eq_true_eq, decide_eq_false_iff_not, Bool.not_eq_true', Bool.not_eq_false', Bool.or_eq_true, Bool.or_eq_false_iff, Bool.and_eq_true, Bool.and_eq_false_iff] at hb) <;> (try (exfalso; first | omega | (cases hb; done)))) | (refine DSeq.litC2 (by rfl) (by rfl) (by rfl) (by rfl) (by rfl) (fun hb => ?_) (fun hb => ?_) <;> (fail_if_success (with_reducible have := litT_ hb)) <;> (fail_if_success (with_reducible have := litF_ hb)) <;> (try simp only [decide_eq_true_eq, decide_eq_false_iff_not, Bool.not_eq_true', Bool.not_eq_false', Bool.or_eq_true, Bool.or_eq_false_iff, Bool.and_eq_true, Bool.and_eq_false_iff] at hb) <;> (try (exfalso; first | omega | (cases hb; done)))))
    exact retC_mk [(2, .ptr 0 [])] [(0, ratA V)] 3 (Sim.less [] (by rfl) R_ R_) (retQ_ok (by rfl) [] nil_sub ⟨rfl, rfl⟩)
  · have z3 := fin 6 rfl
    clear fin
    refine Ok.of_vcC tt_ok Try.func28 rfl rfl (by show 1 ≤ _; decide) 0 (hlt_ok (by rfl)) fun c0 => ?_
    repeat' (first | (refine SS_ ?_) | (refine Seq.callp false (z1) Try.func10 GOk.nil subG.nil (by rfl) (by rfl) rfl rfl rfl rfl rfl (by rfl) rfl VW_ NI_ NI_ FR_ ?_) | (refine Seq.callp false (z2) Try.func10 GOk.nil subG.nil (by rfl) (by rfl) rfl rfl rfl rfl rfl (by rfl) rfl VW_ NI_ NI_ FR_ ?_) | (refine Seq.callp false (z3) Try.func53 GOk.nil subG.nil (by rfl) (by rfl) rfl rfl rfl rfl rfl (by rfl) rfl VW_ NI_ NI_ FR_ ?_) | (refine Seq.ev0 false tt_ok (by rfl) (by (first | exact trivial | exact u8_in _ rfl | exact u32_in _ rfl | ((with_reducible refine AllP.guard ?_); simp only [AllP, inI, fitV, maxK, inK, inbL, inb, List.append, List.cons_append, List.nil_append, true_and, and_true]; first | done | omega))) rfl rfl rfl (Seq.same 13 (u' := .int .i64 (Int.tdiv n 5)) (by rfl) (congrArg (AV.int .i64) hwr) ?_)) | (refine Seq.lit (by rfl) (by rfl) LT2_ ?_) | (refine VC.litT (by rfl) LTR_ ?_) | (refine VC.litF (by rfl) LFA_ ?_) | (refine DD_ ?_) | (refine DSeq.lit2 (by rfl) (by rfl) (by rfl) LT2_ (by rfl) ?_) | ((refine retQ_ok (by rfl) [] nil_sub ⟨?_, rfl⟩); try rfl) | (refine Seq.litC (by rfl) (by rfl) (fun hb => ?_) (fun hb => ?_) <;> (fail_if_success (with_reducible have := litT_ hb)) <;> (fail_if_success (with_reducible have := litF_ hb)) <;> (try simp only [decide_eq_true_eq, decide_eq_false_iff_not, Bool.not_eq_true', Bool.not_eq_false', Bool.or_eq_true, Bool.or_eq_false_iff, Bool.and_eq_true, Bool.and_eq_false_iff] at hb) <;> (try (exfalso; first | omega | (cases hb; done)))) | (refine VC.cond (by rfl) (fun hb => ?_) (fun hb => ?_) <;> (fail_if_success (with_reducible have := litT_ hb)) <;> (fail_if_success (with_reducible have := litF_ hb)) <;> (try simp only [decide_eq_true_eq, decide_eq_false_iff_not, Bool.not_eq_true', Bool.not_eq_false', Bool.or_eq_true, Bool.or_eq_false_iff, Bool.and_eq_true, Bool.and_eq_false_iff] at hb) <;> (try (exfalso; first | omega | (cases hb; done)))) | (refine DSeq.litC2 (by rfl) (by rfl) (by rfl) (by rfl) (by rfl) (fun hb => ?_) (fun hb => ?_) <;> (fail_if_success (with_reducible have := litT_ hb)) <;> (fail_if_success (with_reducible have := litF_ hb)) <;> (try simp only [decide_eq_true_eq, decide_eq_false_iff_not, Bool.not_eq_true', Bool.not_eq_false', Bool.or_eq_true, Bool.or_eq_false_iff, Bool.and_eq_true, Bool.and_eq_false_iff] at hb) <;> (try (exfalso; first | omega | (cases hb; done)))))
    exact retC_mk [(2, .ptr 0 [])] [(0, ratA V)] 3 (Sim.less [] (by rfl) R_ R_) (retQ_ok (by rfl) [] nil_sub ⟨rfl, rfl⟩)
end Go.Proofs.Ytkhlmicogdjmlaa
