
/- dioramalaw39.TreeWhole. -/
import Derived.Test.YtbphmbmdkojbnaaDoorUz
set_option linter.unusedSimpArgs false
set_option linter.unusedVariables false
namespace Go.Proofs.YtbphmbmdkojbnaaDoor
open Go.V Go.RowKit Go.U Go.L
theorem longerR_zero (x : List (List UInt8)) : longerR x 0 = ([rootB x], 0) := by
  unfold longerR
  rw [if_neg (by omega)]
  by_cases h : x.length = 0
  · obtain rfl : x = [] := List.length_eq_zero_iff.1 h
    rfl
  · rw [if_neg h]
    have : Tree.steps (Int.toNat 0) 0 x.length = [(0, 0 + x.length)] := Tree.rest_out (by omega) (.inr (by omega))
    rw [this]
    show ([rootD x 0 (0 + x.length - 0)], (0 : Int)) = _
    rw [Nat.zero_add, Nat.sub_zero]
    unfold rootB
    rw [if_neg (fun e => h (by rw [e]; rfl))]
theorem longerR_all (x : List (List UInt8)) : longerR x x.length = ([rootB x], 0) := by
  unfold longerR
  rw [if_neg (by omega)]
  by_cases h : x.length = 0
  · obtain rfl : x = [] := List.length_eq_zero_iff.1 h
    rfl
  · rw [if_neg h, Int.toNat_natCast]
    have : Tree.steps x.length 0 x.length = [(0, 0 + x.length)] := Tree.rest_out (by omega) (.inl (by omega))
    rw [this]
    show ([rootD x 0 (0 + x.length - 0)], (0 : Int)) = _
    rw [Nat.zero_add, Nat.sub_zero]
    unfold rootB
    rw [if_neg (fun e => h (by rw [e]; rfl))]
theorem proveR_all (x : List (List UInt8)) (h : 1 ≤ x.length) : proveR x 0 x.length = ⟨x.length, 0, [], 0⟩ := by
  unfold proveR
  rw [if_neg (by omega), Int.toNat_natCast]
  have : Tree.rest (Int.toNat 0) x.length 0 x.length = [] := Tree.rest_in 0 x.length h (Nat.zero_le _) (by omega)
  rw [this]
  rfl
theorem dOk_nil : DOk [] := ⟨by decide, fun d hd => by cases hd⟩
def resL1 (R : List UInt8) : AV := .tup (.pair (.rsl true 1 16 (fun i => digA ([R].getD i []))) (.pair (.int .i64 0) .nul))
def resP0 (n e : Int) : AV := .tup (.pair (.pair (.int .i64 n) (.pair (.int .i64 0) (.pair (.rsl true 0 16 (fun i => digA (([] : List (List UInt8)).getD i []))) .nul))) (.pair (.int .i64 e) .nul))
set_option maxHeartbeats 4000000 in
set_option maxRecDepth 10000 in
theorem lawWhole_ok (l : List Int) (hl : IOk l) : Ok Tryd.prog 8 gK [] (.pair (intsV l) .nul) (fun r h' => r = .bool true ∧ h' = []) := by
  have cx := leaves_st l hl
  have hx := leaves_LOk l
  have hxl := (leavesR_length l).2
  generalize leavesR l = x at *
  have c1 := root_ok x hx
  have cr := root_ok [] lOk_nil
  have cl := lives_ok
  have hR := rootB_length x
  have h0 := rootB_length []
  have c2 := longer_st x hx (by omega) 0
  have c3 := longer_st x hx (by omega) x.length
  have c4 := extends_ok (rootB x) (rootB x) hR hR x.length x.length [rootB x] ⟨by simp, fun d hd => by simp at hd; rw [hd]; exact hR⟩
  have c5 := extends_ok (rootB []) (rootB x) h0 hR 0 x.length [rootB x] ⟨by simp, fun d hd => by simp at hd; rw [hd]; exact hR⟩
  have e1 := extendsE_longer x (by omega) x.length (by omega)
  have e2 := extendsE_longer x (by omega) 0 (by omega)
  rw [longerR_all, List.take_length] at e1
  rw [show longerR x ((0 : Nat) : Int) = _ from longerR_zero x, List.take_zero] at e2
  rw [e1] at c4
  rw [show extendsE (rootB []) (rootB x) 0 x.length [rootB x] = 0 from e2] at c5
  rw [longerR_zero, show resLT ([rootB x], 0) = resL1 (rootB x) from rfl] at c2
  rw [longerR_all, show resLT ([rootB x], 0) = resL1 (rootB x) from rfl] at c3
  have c6 := prove_st x hx (by omega) 0 x.length
  have c7 := check_ok (rootB x) hR x.length 0 [] x hx (by omega) dOk_nil
  by_cases hx0 : x.length = 0
  · rw [show proveR x 0 x.length = ⟨0, 0, [], 1⟩ by unfold proveR; rw [if_pos (by omega)], show resPT ⟨0, 0, [], 1⟩ = resP0 0 1 from rfl] at c6
    clear c7 e1 e2
    generalize rootB [] = R0 at *
    generalize rootB x = R at *
    refine Ok.of_vc tt_ok Tryd.func8 rfl rfl (by show 1 ≤ _; decide) 0 (fun i av h => by cases h) fun c0 => ?_
    repeat' (first | (refine SS_ ?_) | (refine VC.drawm (id := 5) [(0, 0), (1, 1), (2, 3), (3, 7), (4, 15), (5, 31), (6, 63), (7, 127), (8, 255), (9, 511), (10, 1023), (11, 2047), (12, 4095), (13, 8191), (14, 16383), (15, 32767), (16, 65535), (17, 131071), (18, 262143), (19, 524287), (20, 131071), (21, 2097151), (22, 4194303), (23, 8388607), (24, 16777215), (25, 33554431), (26, 67108863), (27, 16777215), (28, 268435455), (29, 536870911), (30, 1073741823), (31, 2147483647), (32, 2147483647), (33, 2147483647), (34, 10737418239), (35, 2147483647), (36, 36507222015), (37, 2147483647), (38, 274877906943), (39, 549755813887), (40, 1099511627775), (41, 2199023255551), (42, 4398046511103), (43, 4398046511103), (44, 4398046511103), (45, 21990232555519), (46, 4398046511103), (47, 140737488355327), (48, 281474976710655), (49, 562949953421311)] [] (by rfl) (by kernel_rfl) (by rfl) ?_) | (refine VC.drawn2 (id := 5) [(0, 0), (1, 1), (2, 3), (3, 7), (4, 15), (5, 31), (6, 63), (7, 127), (8, 255), (9, 511), (10, 1023), (11, 2047), (12, 4095), (13, 8191), (14, 16383), (15, 32767), (16, 65535), (17, 131071), (18, 262143), (19, 524287), (20, 131071), (21, 2097151), (22, 4194303), (23, 8388607), (24, 16777215), (25, 33554431), (26, 67108863), (27, 16777215), (28, 268435455), (29, 536870911), (30, 1073741823), (31, 2147483647), (32, 2147483647), (33, 2147483647), (34, 10737418239), (35, 2147483647), (36, 36507222015), (37, 2147483647), (38, 274877906943), (39, 549755813887), (40, 1099511627775), (41, 2199023255551), (42, 4398046511103), (43, 4398046511103), (44, 4398046511103), (45, 21990232555519), (46, 4398046511103), (47, 140737488355327), (48, 281474976710655), (49, 562949953421311)] [] (by rfl) (by kernel_rfl) (by rfl) (by rfl) ?_) | (refine DSeq.nearr (false) tt_ok (by rfl) (fastE (by rfl)) (fastH (by rfl)) (by rfl) (by rfl) (by rfl) (by kernel_rfl) (by rfl) (by rfl) (by rfl) ⟨fun _ i hi => rfl, fun _ => rfl⟩ (by rfl) ?_) | (refine Seq.lit (by rfl) (by rfl) LT2_ ?_) | (refine Seq.callq false (cx) Tryd.func9 GG_ SG_ (by rfl) rfl rfl rfl (by rfl) rfl VW_ NI_ NI_ FR_ ?_) | (refine Seq.callq false (c1) Tryd.func11 GG_ SG_ (by rfl) rfl rfl rfl (by rfl) rfl VW_ NI_ NI_ FR_ ?_) | (refine Seq.callq false (c2) Tryd.func15 GG_ SG_ (by rfl) rfl rfl rfl (by rfl) rfl VW_ NI_ NI_ FR_ ?_) | (refine Seq.callq false (c3) Tryd.func15 GG_ SG_ (by rfl) rfl rfl rfl (by rfl) rfl VW_ NI_ NI_ FR_ ?_) | (refine Seq.callq false (c4) Tryd.func22 GG_ SG_ (by rfl) rfl rfl rfl (by rfl) rfl VW_ NI_ NI_ FR_ ?_) | (refine Seq.callq false (cr) Tryd.func11 GG_ SG_ (by rfl) rfl rfl rfl (by rfl) rfl VW_ NI_ NI_ FR_ ?_) | (refine Seq.callq false (c5) Tryd.func22 GG_ SG_ (by rfl) rfl rfl rfl (by rfl) rfl VW_ NI_ NI_ FR_ ?_) | (refine Seq.callq false (c6) Tryd.func13 GG_ SG_ (by rfl) rfl rfl rfl (by rfl) rfl VW_ NI_ NI_ FR_ ?_) | (refine Seq.callq false (cl) Tryd.func18 GG_ SG_ (by rfl) rfl rfl rfl (by rfl) rfl VW_ NI_ NI_ FR_ ?_) | (refine VC.litT (by rfl) LTR_ ?_) | (refine VC.litF (by rfl) LFA_ ?_) | (refine DD_ ?_) | (refine DSeq.lit2 (by rfl) (by rfl) (by rfl) LT2_ (by rfl) ?_) | (refine DSeq.callq false (cx) Tryd.func9 GG_ SG_ (by rfl) (fastE (by rfl)) (fastH (by rfl)) (by rfl) rfl rfl rfl (by rfl) (by rfl) VW_ NI_ NI_ FR_ ?_) | (refine DSeq.callq false (c1) Tryd.func11 GG_ SG_ (by rfl) (fastE (by rfl)) (fastH (by rfl)) (by rfl) rfl rfl rfl (by rfl) (by rfl) VW_ NI_ NI_ FR_ ?_) | (refine DSeq.callq false (c2) Tryd.func15 GG_ SG_ (by rfl) (fastE (by rfl)) (fastH (by rfl)) (by rfl) rfl rfl rfl (by rfl) (by rfl) VW_ NI_ NI_ FR_ ?_) | (refine DSeq.callq false (c3) Tryd.func15 GG_ SG_ (by rfl) (fastE (by rfl)) (fastH (by rfl)) (by rfl) rfl rfl rfl (by rfl) (by rfl) VW_ NI_ NI_ FR_ ?_) | (refine DSeq.callq false (c4) Tryd.func22 GG_ SG_ (by rfl) (fastE (by rfl)) (fastH (by rfl)) (by rfl) rfl rfl rfl (by rfl) (by rfl) VW_ NI_ NI_ FR_ ?_) | (refine DSeq.callq false (cr) Tryd.func11 GG_ SG_ (by rfl) (fastE (by rfl)) (fastH (by rfl)) (by rfl) rfl rfl rfl (by rfl) (by rfl) VW_ NI_ NI_ FR_ ?_) | (refine DSeq.callq false (c5) Tryd.func22 GG_ SG_ (by rfl) (fastE (by rfl)) (fastH (by rfl)) (by rfl) rfl rfl rfl (by rfl) (by rfl) VW_ NI_ NI_ FR_ ?_) | (refine DSeq.callq false (c6) Tryd.func13 GG_ SG_ (by rfl) (fastE (by rfl)) (fastH (by rfl)) (by rfl) rfl rfl rfl (by rfl) (by rfl) VW_ NI_ NI_ FR_ ?_) | (refine DSeq.callq false (cl) Tryd.func18 GG_ SG_ (by rfl) (fastE (by rfl)) (fastH (by rfl)) (by rfl) rfl rfl rfl (by rfl) (by rfl) VW_ NI_ NI_ FR_ ?_) | ((refine retQ_ok (by rfl) [] nil_sub ⟨?_, rfl⟩); try rfl) | (refine Seq.litC (by rfl) (by rfl) (fun hb => ?_) (fun hb => ?_) <;> (try simp only [decide_eq_true_eq, decide_eq_false_iff_not, Bool.not_eq_true', Bool.not_eq_false', Bool.or_eq_true, Bool.or_eq_false_iff, Bool.and_eq_true, Bool.and_eq_false_iff] at hb) <;> (try (exfalso; first | omega | (cases hb; done)))) | (refine VC.cond (by rfl) (fun hb => ?_) (fun hb => ?_) <;> (try simp only [decide_eq_true_eq, decide_eq_false_iff_not, Bool.not_eq_true', Bool.not_eq_false', Bool.or_eq_true, Bool.or_eq_false_iff, Bool.and_eq_true, Bool.and_eq_false_iff] at hb) <;> (try (exfalso; first | omega | (cases hb; done)))) | (refine DSeq.litC2 (by rfl) (by rfl) (by rfl) (by rfl) (by rfl) (fun hb => ?_) (fun hb => ?_) <;> (try simp only [decide_eq_true_eq, decide_eq_false_iff_not, Bool.not_eq_true', Bool.not_eq_false', Bool.or_eq_true, Bool.or_eq_false_iff, Bool.and_eq_true, Bool.and_eq_false_iff] at hb) <;> (try (exfalso; first | omega | (cases hb; done)))))
  · rw [proveR_all x (by omega), show resPT ⟨x.length, 0, [], 0⟩ = resP0 x.length 0 from rfl] at c6
    have e3 := checkE_proved x (by omega) 0 x.length (by omega) (by omega)
    rw [show Tree.rest 0 x.length 0 x.length = [] from Tree.rest_in 0 x.length (by omega) (Nat.zero_le _) (by omega), show rootsD x [] = [] from rfl, List.drop_zero, Nat.sub_zero, List.take_length] at e3
    rw [show checkE (rootB x) x.length 0 [] x = 0 from e3] at c7
    clear e1 e2 e3
    generalize rootB [] = R0 at *
    generalize rootB x = R at *
    refine Ok.of_vc tt_ok Tryd.func8 rfl rfl (by show 1 ≤ _; decide) 0 (fun i av h => by cases h) fun c0 => ?_
    repeat' (first | (refine SS_ ?_) | (refine VC.drawm (id := 5) [(0, 0), (1, 1), (2, 3), (3, 7), (4, 15), (5, 31), (6, 63), (7, 127), (8, 255), (9, 511), (10, 1023), (11, 2047), (12, 4095), (13, 8191), (14, 16383), (15, 32767), (16, 65535), (17, 131071), (18, 262143), (19, 524287), (20, 131071), (21, 2097151), (22, 4194303), (23, 8388607), (24, 16777215), (25, 33554431), (26, 67108863), (27, 16777215), (28, 268435455), (29, 536870911), (30, 1073741823), (31, 2147483647), (32, 2147483647), (33, 2147483647), (34, 10737418239), (35, 2147483647), (36, 36507222015), (37, 2147483647), (38, 274877906943), (39, 549755813887), (40, 1099511627775), (41, 2199023255551), (42, 4398046511103), (43, 4398046511103), (44, 4398046511103), (45, 21990232555519), (46, 4398046511103), (47, 140737488355327), (48, 281474976710655), (49, 562949953421311)] [] (by rfl) (by kernel_rfl) (by rfl) ?_) | (refine VC.drawn2 (id := 5) [(0, 0), (1, 1), (2, 3), (3, 7), (4, 15), (5, 31), (6, 63), (7, 127), (8, 255), (9, 511), (10, 1023), (11, 2047), (12, 4095), (13, 8191), (14, 16383), (15, 32767), (16, 65535), (17, 131071), (18, 262143), (19, 524287), (20, 131071), (21, 2097151), (22, 4194303), (23, 8388607), (24, 16777215), (25, 33554431), (26, 67108863), (27, 16777215), (28, 268435455), (29, 536870911), (30, 1073741823), (31, 2147483647), (32, 2147483647), (33, 2147483647), (34, 10737418239), (35, 2147483647), (36, 36507222015), (37, 2147483647), (38, 274877906943), (39, 549755813887), (40, 1099511627775), (41, 2199023255551), (42, 4398046511103), (43, 4398046511103), (44, 4398046511103), (45, 21990232555519), (46, 4398046511103), (47, 140737488355327), (48, 281474976710655), (49, 562949953421311)] [] (by rfl) (by kernel_rfl) (by rfl) (by rfl) ?_) | (refine DSeq.nearr (false) tt_ok (by rfl) (fastE (by rfl)) (fastH (by rfl)) (by rfl) (by rfl) (by rfl) (by kernel_rfl) (by rfl) (by rfl) (by rfl) ⟨fun _ i hi => rfl, fun _ => rfl⟩ (by rfl) ?_) | (refine Seq.lit (by rfl) (by rfl) LT2_ ?_) | (refine Seq.callq false (cx) Tryd.func9 GG_ SG_ (by rfl) rfl rfl rfl (by rfl) rfl VW_ NI_ NI_ FR_ ?_) | (refine Seq.callq false (c1) Tryd.func11 GG_ SG_ (by rfl) rfl rfl rfl (by rfl) rfl VW_ NI_ NI_ FR_ ?_) | (refine Seq.callq false (c2) Tryd.func15 GG_ SG_ (by rfl) rfl rfl rfl (by rfl) rfl VW_ NI_ NI_ FR_ ?_) | (refine Seq.callq false (c3) Tryd.func15 GG_ SG_ (by rfl) rfl rfl rfl (by rfl) rfl VW_ NI_ NI_ FR_ ?_) | (refine Seq.callq false (c4) Tryd.func22 GG_ SG_ (by rfl) rfl rfl rfl (by rfl) rfl VW_ NI_ NI_ FR_ ?_) | (refine Seq.callq false (cr) Tryd.func11 GG_ SG_ (by rfl) rfl rfl rfl (by rfl) rfl VW_ NI_ NI_ FR_ ?_) | (refine Seq.callq false (c5) Tryd.func22 GG_ SG_ (by rfl) rfl rfl rfl (by rfl) rfl VW_ NI_ NI_ FR_ ?_) | (refine Seq.callq false (c7) Tryd.func20 GG_ SG_ (by rfl) rfl rfl rfl (by rfl) rfl VW_ NI_ NI_ FR_ ?_) | (refine Seq.callq false (c6) Tryd.func13 GG_ SG_ (by rfl) rfl rfl rfl (by rfl) rfl VW_ NI_ NI_ FR_ ?_) | (refine Seq.callq false (cl) Tryd.func18 GG_ SG_ (by rfl) rfl rfl rfl (by rfl) rfl VW_ NI_ NI_ FR_ ?_) | (refine VC.litT (by rfl) LTR_ ?_) | (refine VC.litF (by rfl) LFA_ ?_) | (refine DD_ ?_) | (refine DSeq.lit2 (by rfl) (by rfl) (by rfl) LT2_ (by rfl) ?_) | (refine DSeq.callq false (cx) Tryd.func9 GG_ SG_ (by rfl) (fastE (by rfl)) (fastH (by rfl)) (by rfl) rfl rfl rfl (by rfl) (by rfl) VW_ NI_ NI_ FR_ ?_) | (refine DSeq.callq false (c1) Tryd.func11 GG_ SG_ (by rfl) (fastE (by rfl)) (fastH (by rfl)) (by rfl) rfl rfl rfl (by rfl) (by rfl) VW_ NI_ NI_ FR_ ?_) | (refine DSeq.callq false (c2) Tryd.func15 GG_ SG_ (by rfl) (fastE (by rfl)) (fastH (by rfl)) (by rfl) rfl rfl rfl (by rfl) (by rfl) VW_ NI_ NI_ FR_ ?_) | (refine DSeq.callq false (c3) Tryd.func15 GG_ SG_ (by rfl) (fastE (by rfl)) (fastH (by rfl)) (by rfl) rfl rfl rfl (by rfl) (by rfl) VW_ NI_ NI_ FR_ ?_) | (refine DSeq.callq false (c4) Tryd.func22 GG_ SG_ (by rfl) (fastE (by rfl)) (fastH (by rfl)) (by rfl) rfl rfl rfl (by rfl) (by rfl) VW_ NI_ NI_ FR_ ?_) | (refine DSeq.callq false (cr) Tryd.func11 GG_ SG_ (by rfl) (fastE (by rfl)) (fastH (by rfl)) (by rfl) rfl rfl rfl (by rfl) (by rfl) VW_ NI_ NI_ FR_ ?_) | (refine DSeq.callq false (c5) Tryd.func22 GG_ SG_ (by rfl) (fastE (by rfl)) (fastH (by rfl)) (by rfl) rfl rfl rfl (by rfl) (by rfl) VW_ NI_ NI_ FR_ ?_) | (refine DSeq.callq false (c7) Tryd.func20 GG_ SG_ (by rfl) (fastE (by rfl)) (fastH (by rfl)) (by rfl) rfl rfl rfl (by rfl) (by rfl) VW_ NI_ NI_ FR_ ?_) | (refine DSeq.callq false (c6) Tryd.func13 GG_ SG_ (by rfl) (fastE (by rfl)) (fastH (by rfl)) (by rfl) rfl rfl rfl (by rfl) (by rfl) VW_ NI_ NI_ FR_ ?_) | (refine DSeq.callq false (cl) Tryd.func18 GG_ SG_ (by rfl) (fastE (by rfl)) (fastH (by rfl)) (by rfl) rfl rfl rfl (by rfl) (by rfl) VW_ NI_ NI_ FR_ ?_) | ((refine retQ_ok (by rfl) [] nil_sub ⟨?_, rfl⟩); try rfl) | (refine Seq.litC (by rfl) (by rfl) (fun hb => ?_) (fun hb => ?_) <;> (try simp only [decide_eq_true_eq, decide_eq_false_iff_not, Bool.not_eq_true', Bool.not_eq_false', Bool.or_eq_true, Bool.or_eq_false_iff, Bool.and_eq_true, Bool.and_eq_false_iff] at hb) <;> (try (exfalso; first | omega | (cases hb; done)))) | (refine VC.cond (by rfl) (fun hb => ?_) (fun hb => ?_) <;> (try simp only [decide_eq_true_eq, decide_eq_false_iff_not, Bool.not_eq_true', Bool.not_eq_false', Bool.or_eq_true, Bool.or_eq_false_iff, Bool.and_eq_true, Bool.and_eq_false_iff] at hb) <;> (try (exfalso; first | omega | (cases hb; done)))) | (refine DSeq.litC2 (by rfl) (by rfl) (by rfl) (by rfl) (by rfl) (fun hb => ?_) (fun hb => ?_) <;> (try simp only [decide_eq_true_eq, decide_eq_false_iff_not, Bool.not_eq_true', Bool.not_eq_false', Bool.or_eq_true, Bool.or_eq_false_iff, Bool.and_eq_true, Bool.and_eq_false_iff] at hb) <;> (try (exfalso; first | omega | (cases hb; done)))))
end Go.Proofs.YtbphmbmdkojbnaaDoor
