
/- Budgets: what happens to a book. -/
import Derived.Test.YtkhlmicogdjmlaaRt
set_option linter.unusedSimpArgs false
set_option linter.unusedVariables false
namespace Go.Bg
open Go.Rt Go.Lx
structure ActS where
  R : Bool
  P : List Int
  C : Rq
def isRm (x : ActS) : Bool := x.R && decide (0 < x.P.length)
def doE (b : Bk) (x : ActS) : Int := if isRm x = true then rmE b (x.P.getD 0 0) else askE b x.P x.C
def doB (b : Bk) (x : ActS) : Bk := if isRm x = true then rmB b (x.P.getD 0 0) else askB b x.P x.C
end Go.Bg
namespace Go.Proofs.Ytkhlmicogdjmlaa
open Go.V Go.RowKit Go.L Go.Lx Go.Rt Go.Bg
set_option maxRecDepth 10000
set_option maxHeartbeats 4000000
abbrev actA (x : ActS) : AV := .pair (.bool x.R) (.pair (liV x.P) (.pair (ratA x.C) .nul))
theorem act_rm (b : Bk) (hb : BOk b) (x : ActS) (hl : x.P.length ≤ 256) (hx : isRm x = true) : Ok Try.prog 18 [] (bH b) (.pair (.ptr 0 []) (.pair (actA x) .nul)) (fun v h' => v = .int .i64 (rmE b (x.P.getD 0 0)) ∧ h' = bH (rmB b (x.P.getD 0 0))) := by
  obtain ⟨r, l, c⟩ := x
  unfold isRm at hx
  rw [Bool.and_eq_true, decide_eq_true_eq] at hx
  obtain ⟨rfl, h0⟩ := hx
  have hl : l.length ≤ 256 := hl
  have h0 : 0 < l.length := h0
  have c1 := remove_ok b hb (l.getD 0 0)
  show Ok _ _ _ _ _ (fun v h' => v = .int .i64 (rmE b (l.getD 0 0)) ∧ h' = bH (rmB b (l.getD 0 0)))
  generalize rmE b (l.getD 0 0) = E at *
  generalize rmB b (l.getD 0 0) = b2 at *
  refine Ok.of_vcC tt_ok Try.func18 rfl rfl (by show 2 ≤ _; decide) 5 (hlt_ok (by rfl)) fun c0 => ?_
  repeat' (first | (refine SS_ ?_) | (refine Seq.callo false [] [] (.int .i64 E) (bH b2) 6 (c1) Try.func29 GOk.nil subG.nil (by rfl) (by rfl) rfl rfl rfl rfl rfl (by rfl) rfl (by rfl) (by rfl) (by rfl) (by rfl) VW_ NI_ R_ (noFrL_ok NI_) BK_ ?_) | (refine Seq.lit (by rfl) (by rfl) LT2_ ?_) | (refine VC.litT (by rfl) LTR_ ?_) | (refine VC.litF (by rfl) LFA_ ?_) | (refine DD_ ?_) | (refine DSeq.lit2 (by rfl) (by rfl) (by rfl) LT2_ (by rfl) ?_) | ((refine retQ_ok (by rfl) [] nil_sub ⟨?_, rfl⟩); try rfl) | (refine Seq.litC (by rfl) (by rfl) (fun hb => ?_) (fun hb => ?_) <;> (fail_if_success (with_reducible have := litT_ hb)) <;> (fail_if_success (with_reducible have := litF_ hb)) <;> (try simp only [decide_eq_true_eq, decide_eq_false_iff_not, Bool.not_eq_true', Bool.not_eq_false', Bool.or_eq_true, Bool.or_eq_false_iff, Bool.and_eq_true, Bool.and_eq_false_iff] at hb) <;> (try (exfalso; first | omega | (cases hb; done)))) | (refine VC.cond (by rfl) (fun hb => ?_) (fun hb => ?_) <;> (fail_if_success (with_reducible have := litT_ hb)) <;> (fail_if_success (with_reducible have := litF_ hb)) <;> (try simp only [decide_eq_true_eq, decide_eq_false_iff_not, Bool.not_eq_true', Bool.not_eq_false', Bool.or_eq_true, Bool.or_eq_false_iff, Bool.and_eq_true, Bool.and_eq_false_iff] at hb) <;> (try (exfalso; first | omega | (cases hb; done)))) | (refine DSeq.litC2 (by rfl) (by rfl) (by rfl) (by rfl) (by rfl) (fun hb => ?_) (fun hb => ?_) <;> (fail_if_success (with_reducible have := litT_ hb)) <;> (fail_if_success (with_reducible have := litF_ hb)) <;> (try simp only [decide_eq_true_eq, decide_eq_false_iff_not, Bool.not_eq_true', Bool.not_eq_false', Bool.or_eq_true, Bool.or_eq_false_iff, Bool.and_eq_true, Bool.and_eq_false_iff] at hb) <;> (try (exfalso; first | omega | (cases hb; done)))))
  (refine retC_mk ([(4, .int .i64 E)]) (bH b2) 6 (Sim.less [] (by rfl) R_ R_) (retQ_ok (by rfl) (bH b2) (fun i av h => h) ⟨?_, ?_⟩)) <;> rfl
theorem act_err (b : Bk) (hb : BOk b) (x : ActS) (hl : x.P.length ≤ 256) (hc : R64 x.C) (hx : isRm x = false) (e : Int) (he : askE b x.P x.C = e) (hne : e ≠ 0) : Ok Try.prog 18 [] (bH b) (.pair (.ptr 0 []) (.pair (actA x) .nul)) (fun v h' => v = .int .i64 e ∧ h' = bH b) := by
  obtain ⟨r, l, c⟩ := x
  have hl : l.length ≤ 256 := hl
  have c1 := ask_err b hb l hl c hc e he hne
  cases r with
  | false =>
    refine Ok.of_vcC tt_ok Try.func18 rfl rfl (by show 2 ≤ _; decide) 5 (hlt_ok (by rfl)) fun c0 => ?_
    repeat' (first | (refine SS_ ?_) | (refine Seq.callo false [] [] (.int .i64 e) (bH b) 6 (c1) Try.func26 GOk.nil subG.nil (by rfl) (by rfl) rfl rfl rfl rfl rfl (by rfl) rfl (by rfl) (by rfl) (by rfl) (by rfl) VW_ NI_ R_ (noFrL_ok NI_) BK_ ?_) | (refine Seq.lit (by rfl) (by rfl) LT2_ ?_) | (refine VC.litT (by rfl) LTR_ ?_) | (refine VC.litF (by rfl) LFA_ ?_) | (refine DD_ ?_) | (refine DSeq.lit2 (by rfl) (by rfl) (by rfl) LT2_ (by rfl) ?_) | ((refine retQ_ok (by rfl) [] nil_sub ⟨?_, rfl⟩); try rfl) | (refine Seq.litC (by rfl) (by rfl) (fun hb => ?_) (fun hb => ?_) <;> (fail_if_success (with_reducible have := litT_ hb)) <;> (fail_if_success (with_reducible have := litF_ hb)) <;> (try simp only [decide_eq_true_eq, decide_eq_false_iff_not, Bool.not_eq_true', Bool.not_eq_false', Bool.or_eq_true, Bool.or_eq_false_iff, Bool.and_eq_true, Bool.and_eq_false_iff] at hb) <;> (try (exfalso; first | omega | (cases hb; done)))) | (refine VC.cond (by rfl) (fun hb => ?_) (fun hb => ?_) <;> (fail_if_success (with_reducible have := litT_ hb)) <;> (fail_if_success (with_reducible have := litF_ hb)) <;> (try simp only [decide_eq_true_eq, decide_eq_false_iff_not, Bool.not_eq_true', Bool.not_eq_false', Bool.or_eq_true, Bool.or_eq_false_iff, Bool.and_eq_true, Bool.and_eq_false_iff] at hb) <;> (try (exfalso; first | omega | (cases hb; done)))) | (refine DSeq.litC2 (by rfl) (by rfl) (by rfl) (by rfl) (by rfl) (fun hb => ?_) (fun hb => ?_) <;> (fail_if_success (with_reducible have := litT_ hb)) <;> (fail_if_success (with_reducible have := litF_ hb)) <;> (try simp only [decide_eq_true_eq, decide_eq_false_iff_not, Bool.not_eq_true', Bool.not_eq_false', Bool.or_eq_true, Bool.or_eq_false_iff, Bool.and_eq_true, Bool.and_eq_false_iff] at hb) <;> (try (exfalso; first | omega | (cases hb; done)))))
    (refine retC_mk ([(4, .int .i64 e)]) (bH b) 6 (Sim.less [] (by rfl) R_ R_) (retQ_ok (by rfl) (bH b) (fun i av h => h) ⟨?_, ?_⟩)) <;> rfl
  | true =>
    have h0 : l.length = 0 := by
      have hx : decide (0 < l.length) = false := hx
      have := of_decide_eq_false hx
      omega
    refine Ok.of_vcC tt_ok Try.func18 rfl rfl (by show 2 ≤ _; decide) 5 (hlt_ok (by rfl)) fun c0 => ?_
    repeat' (first | (refine SS_ ?_) | (refine Seq.callo false [] [] (.int .i64 e) (bH b) 6 (c1) Try.func26 GOk.nil subG.nil (by rfl) (by rfl) rfl rfl rfl rfl rfl (by rfl) rfl (by rfl) (by rfl) (by rfl) (by rfl) VW_ NI_ R_ (noFrL_ok NI_) BK_ ?_) | (refine Seq.lit (by rfl) (by rfl) LT2_ ?_) | (refine VC.litT (by rfl) LTR_ ?_) | (refine VC.litF (by rfl) LFA_ ?_) | (refine DD_ ?_) | (refine DSeq.lit2 (by rfl) (by rfl) (by rfl) LT2_ (by rfl) ?_) | ((refine retQ_ok (by rfl) [] nil_sub ⟨?_, rfl⟩); try rfl) | (refine Seq.litC (by rfl) (by rfl) (fun hb => ?_) (fun hb => ?_) <;> (fail_if_success (with_reducible have := litT_ hb)) <;> (fail_if_success (with_reducible have := litF_ hb)) <;> (try simp only [decide_eq_true_eq, decide_eq_false_iff_not, Bool.not_eq_true', Bool.not_eq_false', Bool.or_eq_true, Bool.or_eq_false_iff, Bool.and_eq_true, Bool.and_eq_false_iff] at hb) <;> (try (exfalso; first | omega | (cases hb; done)))) | (refine VC.cond (by rfl) (fun hb => ?_) (fun hb => ?_) <;> (fail_if_success (with_reducible have := litT_ hb)) <;> (fail_if_success (with_reducible have := litF_ hb)) <;> (try simp only [decide_eq_true_eq, decide_eq_false_iff_not, Bool.not_eq_true', Bool.not_eq_false', Bool.or_eq_true, Bool.or_eq_false_iff, Bool.and_eq_true, Bool.and_eq_false_iff] at hb) <;> (try (exfalso; first | omega | (cases hb; done)))) | (refine DSeq.litC2 (by rfl) (by rfl) (by rfl) (by rfl) (by rfl) (fun hb => ?_) (fun hb => ?_) <;> (fail_if_success (with_reducible have := litT_ hb)) <;> (fail_if_success (with_reducible have := litF_ hb)) <;> (try simp only [decide_eq_true_eq, decide_eq_false_iff_not, Bool.not_eq_true', Bool.not_eq_false', Bool.or_eq_true, Bool.or_eq_false_iff, Bool.and_eq_true, Bool.and_eq_false_iff] at hb) <;> (try (exfalso; first | omega | (cases hb; done)))))
    (refine retC_mk ([(4, .int .i64 e)]) (bH b) 6 (Sim.less [] (by rfl) R_ R_) (retQ_ok (by rfl) (bH b) (fun i av h => h) ⟨?_, ?_⟩)) <;> rfl
theorem act_fine (b : Bk) (hb : BOk b) (x : ActS) (hl : x.P.length ≤ 256) (hc : R64 x.C) (hx : isRm x = false) (he : askE b x.P x.C = 0) : Ok Try.prog 18 [] (bH b) (.pair (.ptr 0 []) (.pair (actA x) .nul)) (fun v h' => v = .int .i64 0 ∧ h' = nbH (askB b x.P x.C)) := by
  obtain ⟨r, l, c⟩ := x
  have hl : l.length ≤ 256 := hl
  have c1 := ask_fine b hb l hl c hc he
  show Ok _ _ _ _ _ (fun v h' => v = .int .i64 0 ∧ h' = nbH (askB b l c))
  generalize askB b l c = b2 at *
  cases r with
  | false =>
    refine Ok.of_vcC tt_ok Try.func18 rfl rfl (by show 2 ≤ _; decide) 5 (hlt_ok (by rfl)) fun c0 => ?_
    repeat' (first | (refine SS_ ?_) | (refine Seq.callo false [] [] (.int .i64 0) (nbH b2) 11 (c1) Try.func26 GOk.nil subG.nil (by rfl) (by rfl) rfl rfl rfl rfl rfl (by rfl) rfl (by rfl) (by rfl) (by rfl) (by rfl) VW_ NI_ R_ (noFrL_ok NI_) BK_ ?_) | (refine Seq.lit (by rfl) (by rfl) LT2_ ?_) | (refine VC.litT (by rfl) LTR_ ?_) | (refine VC.litF (by rfl) LFA_ ?_) | (refine DD_ ?_) | (refine DSeq.lit2 (by rfl) (by rfl) (by rfl) LT2_ (by rfl) ?_) | ((refine retQ_ok (by rfl) [] nil_sub ⟨?_, rfl⟩); try rfl) | (refine Seq.litC (by rfl) (by rfl) (fun hb => ?_) (fun hb => ?_) <;> (fail_if_success (with_reducible have := litT_ hb)) <;> (fail_if_success (with_reducible have := litF_ hb)) <;> (try simp only [decide_eq_true_eq, decide_eq_false_iff_not, Bool.not_eq_true', Bool.not_eq_false', Bool.or_eq_true, Bool.or_eq_false_iff, Bool.and_eq_true, Bool.and_eq_false_iff] at hb) <;> (try (exfalso; first | omega | (cases hb; done)))) | (refine VC.cond (by rfl) (fun hb => ?_) (fun hb => ?_) <;> (fail_if_success (with_reducible have := litT_ hb)) <;> (fail_if_success (with_reducible have := litF_ hb)) <;> (try simp only [decide_eq_true_eq, decide_eq_false_iff_not, Bool.not_eq_true', Bool.not_eq_false', Bool.or_eq_true, Bool.or_eq_false_iff, Bool.and_eq_true, Bool.and_eq_false_iff] at hb) <;> (try (exfalso; first | omega | (cases hb; done)))) | (refine DSeq.litC2 (by rfl) (by rfl) (by rfl) (by rfl) (by rfl) (fun hb => ?_) (fun hb => ?_) <;> (fail_if_success (with_reducible have := litT_ hb)) <;> (fail_if_success (with_reducible have := litF_ hb)) <;> (try simp only [decide_eq_true_eq, decide_eq_false_iff_not, Bool.not_eq_true', Bool.not_eq_false', Bool.or_eq_true, Bool.or_eq_false_iff, Bool.and_eq_true, Bool.and_eq_false_iff] at hb) <;> (try (exfalso; first | omega | (cases hb; done)))))
    (refine retC_mk ([(4, .int .i64 0)]) (nbH b2) 11 (Sim.less [] (by rfl) R_ R_) (retQ_ok (by rfl) (nbH b2) (fun i av h => h) ⟨?_, ?_⟩)) <;> rfl
  | true =>
    have h0 : l.length = 0 := by
      have hx : decide (0 < l.length) = false := hx
      have := of_decide_eq_false hx
      omega
    refine Ok.of_vcC tt_ok Try.func18 rfl rfl (by show 2 ≤ _; decide) 5 (hlt_ok (by rfl)) fun c0 => ?_
    repeat' (first | (refine SS_ ?_) | (refine Seq.callo false [] [] (.int .i64 0) (nbH b2) 11 (c1) Try.func26 GOk.nil subG.nil (by rfl) (by rfl) rfl rfl rfl rfl rfl (by rfl) rfl (by rfl) (by rfl) (by rfl) (by rfl) VW_ NI_ R_ (noFrL_ok NI_) BK_ ?_) | (refine Seq.lit (by rfl) (by rfl) LT2_ ?_) | (refine VC.litT (by rfl) LTR_ ?_) | (refine VC.litF (by rfl) LFA_ ?_) | (refine DD_ ?_) | (refine DSeq.lit2 (by rfl) (by rfl) (by rfl) LT2_ (by rfl) ?_) | ((refine retQ_ok (by rfl) [] nil_sub ⟨?_, rfl⟩); try rfl) | (refine Seq.litC (by rfl) (by rfl) (fun hb => ?_) (fun hb => ?_) <;> (fail_if_success (with_reducible have := litT_ hb)) <;> (fail_if_success (with_reducible have := litF_ hb)) <;> (try simp only [decide_eq_true_eq, decide_eq_false_iff_not, Bool.not_eq_true', Bool.not_eq_false', Bool.or_eq_true, Bool.or_eq_false_iff, Bool.and_eq_true, Bool.and_eq_false_iff] at hb) <;> (try (exfalso; first | omega | (cases hb; done)))) | (refine VC.cond (by rfl) (fun hb => ?_) (fun hb => ?_) <;> (fail_if_success (with_reducible have := litT_ hb)) <;> (fail_if_success (with_reducible have := litF_ hb)) <;> (try simp only [decide_eq_true_eq, decide_eq_false_iff_not, Bool.not_eq_true', Bool.not_eq_false', Bool.or_eq_true, Bool.or_eq_false_iff, Bool.and_eq_true, Bool.and_eq_false_iff] at hb) <;> (try (exfalso; first | omega | (cases hb; done)))) | (refine DSeq.litC2 (by rfl) (by rfl) (by rfl) (by rfl) (by rfl) (fun hb => ?_) (fun hb => ?_) <;> (fail_if_success (with_reducible have := litT_ hb)) <;> (fail_if_success (with_reducible have := litF_ hb)) <;> (try simp only [decide_eq_true_eq, decide_eq_false_iff_not, Bool.not_eq_true', Bool.not_eq_false', Bool.or_eq_true, Bool.or_eq_false_iff, Bool.and_eq_true, Bool.and_eq_false_iff] at hb) <;> (try (exfalso; first | omega | (cases hb; done)))))
    (refine retC_mk ([(4, .int .i64 0)]) (nbH b2) 11 (Sim.less [] (by rfl) R_ R_) (retQ_ok (by rfl) (nbH b2) (fun i av h => h) ⟨?_, ?_⟩)) <;> rfl
end Go.Proofs.Ytkhlmicogdjmlaa
