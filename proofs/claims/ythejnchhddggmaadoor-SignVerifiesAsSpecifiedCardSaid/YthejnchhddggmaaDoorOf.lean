
/- SignVerifiesAsSpecified. -/
import Derived.Test.YthejnchhddggmaaDoorNy
import Derived.Test.YthejnchhddggmaaDoorOe
set_option linter.unusedSimpArgs false
set_option linter.unusedVariables false
namespace Go.Proofs.YthejnchhddggmaaDoor
open Go.V Go.RowKit Go.U Go.L Go.Lx Go.Sg
set_option maxRecDepth 10000
set_option maxHeartbeats 4000000
theorem lawVerifies_ok (P : List UInt8) (hP : P.length = 16) (h : Int) (msg S : List UInt8) : Ok Tryd.prog 5 gA [] (.pair (digA P) (.pair (.int .i64 h) (.pair (.str msg) (.pair (.str S) .nul)))) (fun r h' => r = .bool true ∧ h' = []) := by
  have csan := sanity_ok
  by_cases hml : msg.length ≤ 200 ∧ S.length ≤ 1400
  · obtain ⟨hm, hs⟩ := hml
    have c1 := verify_ok P hP h msg S (by omega) (by omega)
    have c2 := rverify_ok P hP h msg S (by omega) (by omega)
    generalize verE P h msg S = xy at *
    obtain ⟨x, y⟩ := xy
    rw [show verT (x, y) = .tup (.pair (.int .i64 x) (.pair (.int .i64 y) .nul)) from rfl] at c1 c2
    refine Ok.of_vcC tt_ok Tryd.func5 rfl rfl (by show 4 ≤ _; decide) 0 (hlt_ok (by rfl)) fun c0 => ?_
    repeat' (first | (refine SS_ ?_) | (refine Seq.lit (by rfl) (by rfl) LT2_ ?_) | (refine Seq.callq false (csan) Tryd.func9 GG_ SG_ (by rfl) rfl rfl rfl (by rfl) rfl VW_ NI_ NI_ FR_ ?_) | (refine Seq.callq false (c1) Tryd.func18 GG_ SG_ (by rfl) rfl rfl rfl (by rfl) rfl VW_ NI_ NI_ FR_ ?_) | (refine Seq.callq false (c2) Tryd.func19 GG_ SG_ (by rfl) rfl rfl rfl (by rfl) rfl VW_ NI_ NI_ FR_ ?_) | (refine VC.litF (by rfl) LFA_ ?_) | fail)
    rw [show decide (y = y) = true from decide_eq_true rfl]
    (refine retC_mk ([(8, .bool true)]) ([]) 0 (Sim.less [] (by rfl) R_ R_) (retQ_ok (by rfl) ([]) (fun i av h => h) ⟨?_, ?_⟩)) <;> rfl
  · by_cases hm : 200 < msg.length
    · refine Ok.of_vcC tt_ok Tryd.func5 rfl rfl (by show 4 ≤ _; decide) 0 (hlt_ok (by rfl)) fun c0 => ?_
      repeat' (first | (refine SS_ ?_) | (refine Seq.lit (by rfl) (by rfl) LT2_ ?_) | (refine Seq.callq false (csan) Tryd.func9 GG_ SG_ (by rfl) rfl rfl rfl (by rfl) rfl VW_ NI_ NI_ FR_ ?_) | (refine VC.litT (by rfl) LTR_ ?_) | fail)
      (refine retC_mk ([(8, .bool true)]) ([]) 0 (Sim.less [] (by rfl) R_ R_) (retQ_ok (by rfl) ([]) (fun i av h => h) ⟨?_, ?_⟩)) <;> rfl
    · have hs : 1400 < S.length := by omega
      refine Ok.of_vcC tt_ok Tryd.func5 rfl rfl (by show 4 ≤ _; decide) 0 (hlt_ok (by rfl)) fun c0 => ?_
      repeat' (first | (refine SS_ ?_) | (refine Seq.lit (by rfl) (by rfl) LT2_ ?_) | (refine Seq.callq false (csan) Tryd.func9 GG_ SG_ (by rfl) rfl rfl rfl (by rfl) rfl VW_ NI_ NI_ FR_ ?_) | (refine VC.litT (by rfl) LTR_ ?_) | fail)
      (refine retC_mk ([(8, .bool true)]) ([]) 0 (Sim.less [] (by rfl) R_ R_) (retQ_ok (by rfl) ([]) (fun i av h => h) ⟨?_, ?_⟩)) <;> rfl
end Go.Proofs.YthejnchhddggmaaDoor
