
/- SignBindsTheIndex. -/
import Derived.Test.YthejnchhddggmaaDoorNy
import Derived.Test.YthejnchhddggmaaDoorOe
set_option linter.unusedSimpArgs false
set_option linter.unusedVariables false
namespace Go.Proofs.YthejnchhddggmaaDoor
open Go.V Go.RowKit Go.U Go.L Go.Lx Go.Sg
set_option maxRecDepth 10000
set_option maxHeartbeats 4000000
theorem mix_eq (seed : List UInt8) (h i k : Nat) (msg : List UInt8) : ((sigB seed h k msg).take ((((sigB seed h k msg).length : Nat) : Int) - (68 + (h : Int)) * 16).toNat).drop 0 ++ ((sigB seed h i msg).take (sigB seed h i msg).length).drop ((((sigB seed h i msg).length : Nat) : Int) - (68 + (h : Int)) * 16).toNat = Wire.int (k : Nat) ++ restS seed h i msg := by
  have r1 := restS_length seed h i msg
  have r2 := restS_length seed h k msg
  have l1 : (sigB seed h i msg).length = (Wire.int (i : Nat)).length + (68 + h) * 16 := by rw [sigB_rest, List.length_append, r1]
  have l2 : (sigB seed h k msg).length = (Wire.int (k : Nat)).length + (68 + h) * 16 := by rw [sigB_rest, List.length_append, r2]
  have e1 : ((((sigB seed h k msg).length : Nat) : Int) - (68 + (h : Int)) * 16).toNat = (Wire.int (k : Nat)).length := by omega
  have e2 : ((((sigB seed h i msg).length : Nat) : Int) - (68 + (h : Int)) * 16).toNat = (Wire.int (i : Nat)).length := by omega
  rw [e1, e2, List.drop_zero, List.take_length, sigB_rest seed h k, sigB_rest seed h i, List.take_left, List.drop_left]
theorem lawBinds_ok (c height index other : UInt8) (msg : List UInt8) : Ok Tryd.prog 8 gA [] (.pair (.int .u8 (c.toNat : Nat)) (.pair (.int .u8 (height.toNat : Nat)) (.pair (.int .u8 (index.toNat : Nat)) (.pair (.int .u8 (other.toNat : Nat)) (.pair (.str msg) .nul))))) (fun r h' => r = .bool true ∧ h' = []) := by
  have csan := sanity_ok
  by_cases hml : 200 < msg.length
  · refine Ok.of_vcC tt_ok Tryd.func8 rfl rfl (by show 5 ≤ _; decide) 0 (hlt_ok (by rfl)) fun c0 => ?_
    repeat' (first | (refine SS_ ?_) | (refine Seq.callq false (csan) Tryd.func9 GG_ SG_ (by rfl) rfl rfl rfl (by rfl) rfl VW_ NI_ NI_ FR_ ?_) | (refine VC.litT (by rfl) LTR_ ?_) | fail)
    (refine retC_mk ([(10, .bool true)]) ([]) 0 (Sim.less [] (by rfl) R_ R_) (retQ_ok (by rfl) ([]) (fun i av h => h) ⟨?_, ?_⟩)) <;> rfl
  · have cseed := lseed_ok c
    have hs := seedS_length c
    obtain ⟨h, hH, hh⟩ : ∃ h : Nat, ((height.toNat : Nat) : Int) % 3 = (h : Nat) ∧ h ≤ 2 := ⟨height.toNat % 3, by omega, by omega⟩
    have hsh := shl_i64 (d := h) (by omega)
    have h64 : 2 ^ h ≤ 2 ^ 2 := Nat.pow_le_pow_right (by decide) hh
    have e64 : (2 : Nat) ^ 2 = 4 := by decide
    have hpos : 0 < 2 ^ h := Nat.pos_of_ne_zero (by simp)
    obtain ⟨i, hI, hi⟩ : ∃ i : Nat, ((index.toNat : Nat) : Int) % ((2 ^ h : Nat) : Int) = (i : Nat) ∧ i < 2 ^ h := ⟨index.toNat % 2 ^ h, by omega, Nat.mod_lt _ hpos⟩
    obtain ⟨k, hK, hk⟩ : ∃ k : Nat, ((other.toNat : Nat) : Int) % ((2 ^ h : Nat) : Int) = (k : Nat) ∧ k < 2 ^ h := ⟨other.toNat % 2 ^ h, by omega, Nat.mod_lt _ hpos⟩
    have c1 := public_ok (seedS c) (h : Nat) (by omega)
    rw [if_pos ⟨hs, by omega, by omega⟩, Int.toNat_natCast] at c1
    have c2 := sign_yes (seedS c) hs h i (by omega) hi msg (by omega)
    have c3 := sign_yes (seedS c) hs h k (by omega) hk msg (by omega)
    have hp := ndD_length (seedS c) h 0
    have r1 := restS_length (seedS c) h i msg
    have r2 := restS_length (seedS c) h k msg
    have l1 : (sigB (seedS c) h i msg).length = (Wire.int (i : Nat)).length + (68 + h) * 16 := by rw [sigB_rest, List.length_append, r1]
    have l2 : (sigB (seedS c) h k msg).length = (Wire.int (k : Nat)).length + (68 + h) * 16 := by rw [sigB_rest, List.length_append, r2]
    have w1 := Wire.int_length (i : Nat)
    have w2 := Wire.int_length (k : Nat)
    have hM := mix_eq (seedS c) h i k msg
    have hMl : (Wire.int (k : Nat) ++ restS (seedS c) h i msg).length ≤ 10000000 := by rw [List.length_append, r1]; omega
    have c4 := verify_ok (ndD (seedS c) h 0) hp (h : Nat) msg (Wire.int (k : Nat) ++ restS (seedS c) h i msg) (by omega) hMl
    have c5 := rverify_ok (ndD (seedS c) h 0) hp (h : Nat) msg (Wire.int (k : Nat) ++ restS (seedS c) h i msg) (by omega) hMl
    have hv : i = k → verE (ndD (seedS c) h 0) (h : Nat) msg (Wire.int (k : Nat) ++ restS (seedS c) h i msg) = ((i : Int), 0) := by
      rintro rfl
      rw [← sigB_rest]
      exact verE_sign (seedS c) h i (by omega) hi msg (by omega)
    have hTS : i = k → sigB (seedS c) h k msg = sigB (seedS c) h i msg := fun e => by rw [e]
    generalize verE (ndD (seedS c) h 0) (h : Nat) msg (Wire.int (k : Nat) ++ restS (seedS c) h i msg) = xy at *
    generalize Wire.int (k : Nat) ++ restS (seedS c) h i msg = M at *
    generalize sigB (seedS c) h i msg = SB at *
    generalize sigB (seedS c) h k msg = TB at *
    change Ok _ _ _ _ _ (fun r h' => r = .tup (.pair (digA (ndD (seedS c) h 0)) (.pair (.int .i64 0) .nul)) ∧ h' = []) at c1
    generalize ndD (seedS c) h 0 = P at *
    generalize seedS c = S at *
    obtain ⟨x, y⟩ := xy
    rw [show verT (x, y) = .tup (.pair (.int .i64 x) (.pair (.int .i64 y) .nul)) from rfl] at c4 c5
    by_cases hik : i = k
    · obtain ⟨rfl, rfl⟩ : x = (i : Int) ∧ y = 0 := by
        have := hv hik
        exact ⟨congrArg Prod.fst this, congrArg Prod.snd this⟩
      clear hv
      obtain rfl := hTS hik
      refine Ok.of_vcC tt_ok Tryd.func8 rfl rfl (by show 5 ≤ _; decide) 0 (hlt_ok (by rfl)) fun c0 => ?_
      repeat' (first | (refine SS_ ?_) | (refine Seq.callq false (csan) Tryd.func9 GG_ SG_ (by rfl) rfl rfl rfl (by rfl) rfl VW_ NI_ NI_ FR_ ?_) | (refine VC.litF (by rfl) LFA_ ?_) | fail)
      rw [hH, hsh]
      repeat' (first | (refine SS_ ?_) | fail)
      rw [hI]
      repeat' (first | (refine SS_ ?_) | (done) | (refine Seq.lit (by rfl) (by rfl) LT2_ ?_) | (refine VC.litT (by rfl) LTR_ ?_) | (refine VC.litF (by rfl) LFA_ ?_) | (refine DD_ ?_) | (refine DSeq.lit2 (by rfl) (by rfl) (by rfl) LT2_ (by rfl) ?_) | (((refine retQ_ok (by rfl) [] nil_sub ⟨?_, rfl⟩); try rfl)) | (refine Seq.litC (by rfl) (by rfl) (fun hb => ?_) (fun hb => ?_) <;> (fail_if_success (with_reducible have := litT_ hb)) <;> (fail_if_success (with_reducible have := litF_ hb)) <;> (try simp only [HB_] at hb) <;> (try (exfalso; first | omega | (cases hb; done)))) | (refine VC.cond (by rfl) (fun hb => ?_) (fun hb => ?_) <;> (fail_if_success (with_reducible have := litT_ hb)) <;> (fail_if_success (with_reducible have := litF_ hb)) <;> (try simp only [HB_] at hb) <;> (try (exfalso; first | omega | (cases hb; done)))) | (refine DSeq.litC2 (by rfl) (by rfl) (by rfl) (by rfl) (by rfl) (fun hb => ?_) (fun hb => ?_) <;> (fail_if_success (with_reducible have := litT_ hb)) <;> (fail_if_success (with_reducible have := litF_ hb)) <;> (try simp only [HB_] at hb) <;> (try (exfalso; first | omega | (cases hb; done)))))
      rw [hsh, hK]
      repeat' (first | (refine SS_ ?_) | (refine VC.drawm (id := 15) [(0, 0), (1, 0), (2, 2), (3, 0), (4, 14), (5, 31), (6, 0), (7, 0), (8, 128), (9, 0), (10, 896), (11, 1984), (12, 4095)] [13] (by rfl) (by kernel_rfl) (by rfl) ?_) | (refine DSeq.cat (by rfl) (fastE (by rfl)) (fastH (by rfl)) (by rfl) (by rfl) (by rfl) ((by have := congrArg List.length hM; rw [List.length_append] at this; omega)) (by rfl) ?_ ) | (refine Seq.lit (by rfl) (by rfl) LT2_ ?_) | (refine Seq.callq false (cseed) Tryd.func20 GG_ SG_ (by rfl) rfl rfl rfl (by rfl) rfl VW_ NI_ NI_ FR_ ?_) | (refine Seq.callq false (c1) Tryd.func12 GG_ SG_ (by rfl) rfl rfl rfl (by rfl) rfl VW_ NI_ NI_ FR_ ?_) | (refine Seq.callq false (c2) Tryd.func14 GG_ SG_ (by rfl) rfl rfl rfl (by rfl) rfl VW_ NI_ NI_ FR_ ?_) | (refine VC.litF (by rfl) LFA_ ?_) | (refine DD_ ?_) | fail)
      rw [hM]
      repeat' (first | (refine SS_ ?_) | (refine Seq.lit (by rfl) (by rfl) LT2_ ?_) | (refine Seq.callq false (c4) Tryd.func18 GG_ SG_ (by rfl) rfl rfl rfl (by rfl) rfl VW_ NI_ NI_ FR_ ?_) | (refine Seq.callq false (c5) Tryd.func19 GG_ SG_ (by rfl) rfl rfl rfl (by rfl) rfl VW_ NI_ NI_ FR_ ?_) | fail)
      try rw [show decide (y = y) = true from decide_eq_true rfl]
      (refine retC_mk ([(10, .bool true)]) ([]) 0 (Sim.less [] (by rfl) R_ R_) (retQ_ok (by rfl) ([]) (fun i av h => h) ⟨?_, ?_⟩)) <;> rfl
    · clear hv
      refine Ok.of_vcC tt_ok Tryd.func8 rfl rfl (by show 5 ≤ _; decide) 0 (hlt_ok (by rfl)) fun c0 => ?_
      repeat' (first | (refine SS_ ?_) | (refine Seq.callq false (csan) Tryd.func9 GG_ SG_ (by rfl) rfl rfl rfl (by rfl) rfl VW_ NI_ NI_ FR_ ?_) | (refine VC.litF (by rfl) LFA_ ?_) | fail)
      rw [hH, hsh]
      repeat' (first | (refine SS_ ?_) | fail)
      rw [hI]
      repeat' (first | (refine SS_ ?_) | (done) | (refine Seq.lit (by rfl) (by rfl) LT2_ ?_) | (refine VC.litT (by rfl) LTR_ ?_) | (refine VC.litF (by rfl) LFA_ ?_) | (refine DD_ ?_) | (refine DSeq.lit2 (by rfl) (by rfl) (by rfl) LT2_ (by rfl) ?_) | (((refine retQ_ok (by rfl) [] nil_sub ⟨?_, rfl⟩); try rfl)) | (refine Seq.litC (by rfl) (by rfl) (fun hb => ?_) (fun hb => ?_) <;> (fail_if_success (with_reducible have := litT_ hb)) <;> (fail_if_success (with_reducible have := litF_ hb)) <;> (try simp only [HB_] at hb) <;> (try (exfalso; first | omega | (cases hb; done)))) | (refine VC.cond (by rfl) (fun hb => ?_) (fun hb => ?_) <;> (fail_if_success (with_reducible have := litT_ hb)) <;> (fail_if_success (with_reducible have := litF_ hb)) <;> (try simp only [HB_] at hb) <;> (try (exfalso; first | omega | (cases hb; done)))) | (refine DSeq.litC2 (by rfl) (by rfl) (by rfl) (by rfl) (by rfl) (fun hb => ?_) (fun hb => ?_) <;> (fail_if_success (with_reducible have := litT_ hb)) <;> (fail_if_success (with_reducible have := litF_ hb)) <;> (try simp only [HB_] at hb) <;> (try (exfalso; first | omega | (cases hb; done)))))
      rw [hsh, hK]
      repeat' (first | (refine SS_ ?_) | (refine VC.drawm (id := 15) [(0, 0), (1, 0), (2, 2), (3, 0), (4, 14), (5, 31), (6, 0), (7, 0), (8, 128), (9, 0), (10, 896), (11, 1984), (12, 4095)] [13] (by rfl) (by kernel_rfl) (by rfl) ?_) | (refine DSeq.cat (by rfl) (fastE (by rfl)) (fastH (by rfl)) (by rfl) (by rfl) (by rfl) ((by have := congrArg List.length hM; rw [List.length_append] at this; omega)) (by rfl) ?_ ) | (refine Seq.lit (by rfl) (by rfl) LT2_ ?_) | (refine Seq.callq false (cseed) Tryd.func20 GG_ SG_ (by rfl) rfl rfl rfl (by rfl) rfl VW_ NI_ NI_ FR_ ?_) | (refine Seq.callq false (c1) Tryd.func12 GG_ SG_ (by rfl) rfl rfl rfl (by rfl) rfl VW_ NI_ NI_ FR_ ?_) | (refine Seq.callq false (c2) Tryd.func14 GG_ SG_ (by rfl) rfl rfl rfl (by rfl) rfl VW_ NI_ NI_ FR_ ?_) | (refine Seq.callq false (c3) Tryd.func14 GG_ SG_ (by rfl) rfl rfl rfl (by rfl) rfl VW_ NI_ NI_ FR_ ?_) | (refine VC.litF (by rfl) LFA_ ?_) | (refine DD_ ?_) | fail)
      rw [hM]
      repeat' (first | (refine SS_ ?_) | (refine Seq.lit (by rfl) (by rfl) LT2_ ?_) | (refine Seq.callq false (c4) Tryd.func18 GG_ SG_ (by rfl) rfl rfl rfl (by rfl) rfl VW_ NI_ NI_ FR_ ?_) | (refine Seq.callq false (c5) Tryd.func19 GG_ SG_ (by rfl) rfl rfl rfl (by rfl) rfl VW_ NI_ NI_ FR_ ?_) | fail)
      try rw [show decide (y = y) = true from decide_eq_true rfl]
      (refine retC_mk ([(10, .bool true)]) ([]) 0 (Sim.less [] (by rfl) R_ R_) (retQ_ok (by rfl) ([]) (fun i av h => h) ⟨?_, ?_⟩)) <;> rfl
end Go.Proofs.YthejnchhddggmaaDoor
