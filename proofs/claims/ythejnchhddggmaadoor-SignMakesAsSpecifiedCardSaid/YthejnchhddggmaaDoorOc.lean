
/- The reference's leaf. -/
import Derived.Test.YthejnchhddggmaaDoorNi
set_option linter.unusedSimpArgs false
set_option linter.unusedVariables false
namespace Go.Proofs.YthejnchhddggmaaDoor
open Go.V Go.RowKit Go.U Go.L Go.Lx Go.Sg
set_option maxRecDepth 10000
set_option maxHeartbeats 4000000
theorem rleaf_ok (seed : List UInt8) (hs : seed.length ≤ 1000000) (k : Int) (hk : I64 k) : Ok Tryd.prog 46 gR [] (.pair (.str seed) (.pair (.int .i64 k) .nul)) (fun r h' => r = digA (leafV (valN seed k)) ∧ h' = []) := by
  have hvs : ∀ c : Nat, valN seed k c = advN k c 0 3 (startD seed k c) := fun c => rfl
  have hVl := fun c => valN_length seed k c
  generalize valN seed k = V at *
  have hcl := catV_length V hVl
  refine Ok.of_vc tt_ok Tryd.func46 rfl rfl (by show 2 ≤ _; decide) 0 (fun i av h => by cases h) fun c0 => ?_
  repeat' (first | (refine SS_ ?_) | fail)
  refine VC.loop (fun q : Nat => ⟨[(6, .int .i64 (q : Nat)), (5, .str (catV V q)), (4, .ptr 0 []), (1, .int .i64 k), (0, .str seed)], [(0, .arr 16 1 (fun _ => .int .u8 0))], gR, 1⟩) (fun q => q ≤ 68) (fun q => 68 - q) 0 (by omega) (by rw [show catV V 0 = [] from rfl]; exact (Sim.less [] (by rfl) R_ R_)) fun q hq => ?_
  have hLq := hcl q
  by_cases hqq : q < 68
  · have c1 := rstart_ok seed hs k (q : Nat) hk ⟨by omega, by omega⟩
    have c2 := radv_ok k (q : Nat) 0 3 (startD seed k (q : Nat)) (startD_length _ _ _) hk ⟨by omega, by omega⟩ (by decide)
    rw [show ((3 : Int) - 0).toNat = 3 from rfl, ← hvs q] at c2
    have c3 := textD_ok (V q) (hVl q)
    have e1 := catV_succ V q
    have hv := hVl q
    generalize hY : catV V (q + 1) = Y at *
    generalize V q = v at *
    generalize startD seed k (q : Nat) = X at *
    repeat' (first | (refine SS_ ?_) | (refine Seq.callq false (c1) Tryd.func33 GG_ SG_ (by rfl) rfl rfl rfl (by rfl) rfl VW_ NI_ NI_ FR_ ?_) | (refine Seq.callq false (c2) Tryd.func32 GG_ SG_ (by rfl) rfl rfl rfl (by rfl) rfl VW_ NI_ NI_ FR_ ?_) | (refine Seq.callq true (c3) Tryd.func31 GG_ SG_ (by rfl) rfl rfl rfl (by rfl) rfl VW_ NI_ NI_ FR_ ?_) | (refine VC.litT (by rfl) LTR_ ?_) | fail)
    refine ⟨q + 1, by omega, by omega, ?_⟩
    rw [hY, e1]
    exact (Sim.less [] (by rfl) R_ R_)
  · obtain rfl : q = 68 := by omega
    have c2 := refOfD_ok 3 [catV V 68] (by decide) (by simp) (by have := parts1_len (catV V 68); omega)
    have hK : (digD 3 [catV V 68]).length = 16 := digD_length _ _
    have c3 := refOfD_ok 1 [digD 3 [catV V 68]] (by decide) (by simp) (by have := parts1_len (digD 3 [catV V 68]); omega)
    have c4 := textD_ok (digD 3 [catV V 68]) hK
    unfold leafV
    generalize digD 1 [digD 3 [catV V 68]] = Z at *
    generalize digD 3 [catV V 68] = Y at *
    generalize catV V 68 = X at *
    repeat' (first | (refine SS_ ?_) | (refine Seq.callq true (c2) Tryd.func35 GG_ SG_ (by rfl) rfl rfl rfl (by rfl) rfl VW_ NI_ NI_ FR_ ?_) | (refine Seq.callq true (c4) Tryd.func31 GG_ SG_ (by rfl) rfl rfl rfl (by rfl) rfl VW_ NI_ NI_ FR_ ?_) | (refine Seq.callq true (c3) Tryd.func35 GG_ SG_ (by rfl) rfl rfl rfl (by rfl) rfl VW_ NI_ NI_ FR_ ?_) | (refine VC.litF (by rfl) LFA_ ?_) | (((refine retQ_ok (by rfl) [] nil_sub ⟨?_, rfl⟩); try rfl)) | fail)
end Go.Proofs.YthejnchhddggmaaDoor
