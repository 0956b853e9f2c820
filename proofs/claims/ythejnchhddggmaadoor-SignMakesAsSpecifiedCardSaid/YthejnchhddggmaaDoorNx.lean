
/- dioramalaw03.sanity returns true; the laws of the digits. -/
import Derived.Test.YthejnchhddggmaaDoorNw
set_option linter.unusedSimpArgs false
set_option linter.unusedVariables false
namespace Go.Proofs.YthejnchhddggmaaDoor
open Go.V Go.RowKit Go.U Go.L Go.Lx Go.Sg
set_option maxRecDepth 10000
set_option maxHeartbeats 4000000
theorem zdig : dig (List.replicate 16 0) (Int.toNat 0) = 0 ∧ dig (List.replicate 16 0) (Int.toNat 64) = 3 ∧ dig (List.replicate 16 0) (Int.toNat 67) = 0 := by decide +kernel
theorem sanity_ok : Ok Tryd.prog 9 gK [] .nul (fun r h' => r = .bool true ∧ h' = []) := by
  have c0' := lseed_ok 5
  have hs : s5.length = 32 := seedS_length 5
  have c1 := public_ok s5 1 (by omega)
  rw [if_pos ⟨hs, by decide, by decide⟩] at c1
  have c2 := sign_yes s5 hs 1 1 (by decide) (by decide) [109] (by decide)
  have hp := ndD_length s5 1 0
  have hsl : (sigB s5 1 1 [109]).length ≤ 10000000 := by
    rw [sigB_rest, List.length_append, restS_length]
    have := Wire.int_length ((1 : Nat) : Int)
    omega
  have c3 := verify_ok (ndD s5 1 0) hp 1 [109] (sigB s5 1 1 [109]) (by decide) hsl
  have e3 : verE (ndD s5 1 0) 1 [109] (sigB s5 1 1 [109]) = (1, 0) := verE_sign s5 1 1 (by decide) (by decide) [109] (by decide)
  rw [e3, show verT (1, 0) = .tup (.pair (.int .i64 1) (.pair (.int .i64 0) .nul)) from rfl] at c3
  have c4 := verify_ok (ndD s5 1 0) hp 1 [110] (sigB s5 1 1 [109]) (by decide) hsl
  have e4 : verE (ndD s5 1 0) 1 [110] (sigB s5 1 1 [109]) = (0, 10) := by
    have h := verE_rest (ndD s5 1 0) 1 1 (by decide) (by decide) [110] (restS s5 1 1 [109]) (by decide)
    rw [if_pos (restS_length _ _ _ _), if_neg wrong_ne, ← sigB_rest] at h
    exact h
  rw [e4, show verT (0, 10) = .tup (.pair (.int .i64 0) (.pair (.int .i64 10) .nul)) from rfl] at c4
  have c5 := sign_no s5 1 2 [109] (by omega) (by decide) 22 (.inr (.inl ⟨⟨hs, by decide, by decide⟩, by decide, rfl⟩))
  rw [show errS 22 = .tup (.pair (.str []) (.pair (.int .i64 22) .nul)) from rfl] at c5
  have hd1 : (s5.drop 1).length = 31 := by rw [List.length_drop, hs]
  have c6 := public_ok (s5.drop 1) 0 (by omega)
  rw [if_neg (fun e => by omega)] at c6
  have c7 := sDigits_ok (List.replicate 16 0) (List.length_replicate ..)
  rw [show u8A 16 (List.replicate 16 0) = digA (List.replicate 16 0) from rfl, zA_eq] at c7
  obtain ⟨z0, z64, z67⟩ := zdig
  have c8 := sDigest_ok (ndD s5 1 0) hp ((1 : Nat) : Int) ⟨by decide, by decide⟩ [109] (by decide)
  have c9 := sDigest_ok (ndD s5 1 0) hp ((0 : Nat) : Int) ⟨by decide, by decide⟩ [109] (by decide)
  have hne : ¬ ∀ i, i < 16 → ((((msgD (ndD s5 1 0) ((1 : Nat) : Int) [109]).getD i 0).toNat : Nat) : Int) = ((((msgD (ndD s5 1 0) ((0 : Nat) : Int) [109]).getD i 0).toNat : Nat) : Int) := fun e => dm_ne ((digA_eq (msgD_length _ _ _) (msgD_length _ _ _)).1 e)
  rw [show Int.toNat 1 = 1 from rfl] at c1
  rw [show seedS 5 = s5 from rfl] at c0'
  clear e3 e4
  generalize msgD (ndD s5 1 0) ((1 : Nat) : Int) [109] = D1 at *
  generalize msgD (ndD s5 1 0) ((0 : Nat) : Int) [109] = D0 at *
  generalize sigB s5 1 1 [109] = SB at *
  generalize dig (List.replicate 16 0) = Z at *
  change Ok _ _ _ _ _ (fun r h' => r = .tup (.pair (digA (ndD s5 1 0)) (.pair (.int .i64 0) .nul)) ∧ h' = []) at c1
  generalize ndD s5 1 0 = P at *
  generalize hT : s5.drop 1 = S1 at *
  generalize s5 = S at *
  refine Ok.of_vcC tt_ok Tryd.func9 rfl rfl (by show 0 ≤ _; decide) 0 (hlt_ok (by rfl)) fun c0 => ?_
  repeat' (first | (refine SS_ ?_) | (refine Seq.callq false (c0') Tryd.func20 GG_ SG_ (by rfl) rfl rfl rfl (by rfl) rfl VW_ NI_ NI_ FR_ ?_) | (refine Seq.callq false (c1) Tryd.func12 GG_ SG_ (by rfl) rfl rfl rfl (by rfl) rfl VW_ NI_ NI_ FR_ ?_) | (refine Seq.callq false (c2) Tryd.func14 GG_ SG_ (by rfl) rfl rfl rfl (by rfl) rfl VW_ NI_ NI_ FR_ ?_) | (refine Seq.callq false (c3) Tryd.func18 GG_ SG_ (by rfl) rfl rfl rfl (by rfl) rfl VW_ NI_ NI_ FR_ ?_) | (refine Seq.callq false (c4) Tryd.func18 GG_ SG_ (by rfl) rfl rfl rfl (by rfl) rfl VW_ NI_ NI_ FR_ ?_) | (refine Seq.callq false (c5) Tryd.func14 GG_ SG_ (by rfl) rfl rfl rfl (by rfl) rfl VW_ NI_ NI_ FR_ ?_) | fail)
  refine V.Seq.same 45 (u' := .str S1) (by rfl) (congrArg AV.str (by rw [List.take_length]; exact hT)) ?_
  repeat' (first | (refine SS_ ?_) | (refine VC.drawm (id := 11) [(0, 0), (1, 1), (2, 3), (3, 7), (4, 15), (5, 31), (6, 63), (7, 127), (8, 255), (9, 511), (10, 1023), (11, 2047), (12, 4095), (13, 8191), (14, 16383), (15, 32767), (16, 65535), (17, 131071), (18, 262143), (19, 524287), (20, 1048575), (21, 2097151), (22, 4194303), (23, 8388607), (24, 16777215), (25, 33554431), (26, 67108863), (27, 134217727), (28, 268435455), (29, 536870911), (30, 1073741823), (31, 2147483647), (32, 4294967295), (33, 8589934591), (34, 17179869183), (35, 8589934591), (36, 68719476735), (37, 137438953471), (38, 274877906943)] [39] (by rfl) (by kernel_rfl) (by rfl) ?_) | (refine DSeq.nearr (true) tt_ok (by rfl) (fastE (by rfl)) (fastH (by rfl)) (by rfl) (by rfl) (by rfl) (by kernel_rfl) (by rfl) (by rfl) (by rfl) ⟨fun e => (by cases e), fun e => (hne e).elim⟩ (by rfl) ?_) | (refine Seq.callq false (c6) Tryd.func12 GG_ SG_ (by rfl) rfl rfl rfl (by rfl) rfl VW_ NI_ NI_ FR_ ?_) | (refine Seq.callq false (c7) Tryd.func10 GG_ SG_ (by rfl) rfl rfl rfl (by rfl) rfl VW_ NI_ NI_ FR_ ?_) | (refine VC.litF (by rfl) LFA_ ?_) | (refine DD_ ?_) | (refine DSeq.lit2 (by rfl) (by rfl) (by rfl) LT2_ (by rfl) ?_) | (refine DSeq.callq false (c8) Tryd.func16 GG_ SG_ (by rfl) (fastE (by rfl)) (fastH (by rfl)) (by rfl) rfl rfl rfl (by rfl) (by rfl) VW_ NI_ NI_ FR_ ?_) | (refine DSeq.callq false (c9) Tryd.func16 GG_ SG_ (by rfl) (fastE (by rfl)) (fastH (by rfl)) (by rfl) rfl rfl rfl (by rfl) (by rfl) VW_ NI_ NI_ FR_ ?_) | fail)
  (refine retC_mk ([(0, .bool true)]) ([]) 3 (Sim.less [] (by rfl) R_ R_) (retQ_ok (by rfl) ([]) (fun i av h => h) ⟨?_, ?_⟩)) <;> rfl
end Go.Proofs.YthejnchhddggmaaDoor
