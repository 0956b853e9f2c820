/- Flow: the documented examples. -/
import Derived.Test.YtkpidpmlehkjbaaWy
import Derived.Test.YtkpidpmlehkjbaaZl
set_option linter.unusedSimpArgs false
set_option linter.unusedVariables false
namespace Go.Fl
def lv1 : List Ed := [⟨0, 1, 0, 5, 2⟩, ⟨0, 1, 0, 5, 1⟩, ⟨1, 2, 3, 9, 0⟩, ⟨2, 0, 0, 9, 1⟩]
def lv2 : List Ed := [⟨0, 1, 0, 5, 2⟩, ⟨0, 1, 0, 2, 1⟩, ⟨1, 2, 3, 9, 0⟩, ⟨2, 0, 0, 9, 1⟩]
def lv3 : List Ed := [⟨0, 1, 0, 5, 2⟩, ⟨0, 1, 0, 2, 1⟩, ⟨1, 2, 11, 20, 0⟩, ⟨2, 0, 0, 9, 1⟩]
theorem lv1_g : givenE ((3 : Nat) : Int) lv1 = 0 := by decide
theorem lv2_g : givenE ((3 : Nat) : Int) lv2 = 0 := by decide
theorem lv3_g : givenE ((3 : Nat) : Int) lv3 = 0 := by decide
theorem four_of {F : List Int} {l : List Ed} (h : inB l F) (hl : l.length = 4) : ∃ a b c d, F = [a, b, c, d] := by
  have := (inB_iff.1 h).1
  rw [hl] at this
  match F, this with
  | [a, b, c, d], _ => exact ⟨a, b, c, d, rfl⟩
theorem circ3 {l : List Ed} {F : List Int} (h : circ 3 l F) : bal l F 0 = 0 ∧ bal l F 1 = 0 ∧ bal l F 2 = 0 := ⟨h 0 (by omega), h 1 (by omega), h 2 (by omega)⟩
theorem live1 : ∃ V, lst ((3 : Nat) : Int) lv1 = ⟨[0, 3, 3, 3], V, [], 0⟩ := by
  obtain ⟨_, ok, hl⟩ := given_net lv1_g
  have hB : inB lv1 [0, 3, 3, 3] := by simp [inB, lv1]
  have hC : circ 3 lv1 [0, 3, 3, 3] := fun v hv => by
    rcases (by omega : v = 0 ∨ v = 1 ∨ v = 2) with rfl | rfl | rfl <;> rfl
  rcases lst_cases (n := 3) ok hl lv1_g with ⟨F, h1, h2, h3, h4⟩ | ⟨F, v, h1, h2, h3⟩
  · obtain ⟨a, b, c, d, rfl⟩ := four_of h2 rfl
    have hm := lst_least (NetOk.nodes ok) h2 h3 h4 hB hC
    have h5 := circ3 h3
    simp [bal, lv1, cost, inB] at h2 h5 hm
    obtain ⟨rfl, rfl, rfl, rfl⟩ : a = 0 ∧ b = 3 ∧ c = 3 ∧ d = 3 := by omega
    exact ⟨_, h1⟩
  · exact (blocked (NetOk.nodes ok) h3 hB hC).elim
theorem live2 : ∃ F V, lst ((3 : Nat) : Int) lv2 = ⟨F, V, [], 0⟩ ∧ F.length = 4 ∧ chkE ((3 : Nat) : Int) lv2 F V = 0 ∧ 2 * F.getD 0 0 + F.getD 1 0 + F.getD 3 0 = 7 ∧ 0 ≤ F.getD 0 0 ∧ F.getD 0 0 ≤ 1000 ∧ 0 ≤ F.getD 1 0 ∧ F.getD 1 0 ≤ 1000 ∧ 0 ≤ F.getD 3 0 ∧ F.getD 3 0 ≤ 1000 := by
  obtain ⟨_, ok, hl⟩ := given_net lv2_g
  have hB : inB lv2 [1, 2, 3, 3] := by simp [inB, lv2]
  have hC : circ 3 lv2 [1, 2, 3, 3] := fun v hv => by
    rcases (by omega : v = 0 ∨ v = 1 ∨ v = 2) with rfl | rfl | rfl <;> rfl
  rcases lst_cases (n := 3) ok hl lv2_g with ⟨F, h1, h2, h3, h4⟩ | ⟨F, v, h1, h2, h3⟩
  · have hk := lst_chk ok lv2_g h2 h3 h4
    obtain ⟨a, b, c, d, rfl⟩ := four_of h2 rfl
    have hm := lst_least (NetOk.nodes ok) h2 h3 h4 hB hC
    have h5 := circ3 h3
    simp [bal, lv2, cost, inB] at h2 h5 hm
    refine ⟨[a, b, c, d], _, h1, rfl, hk, ?_⟩
    simp only [List.getD_cons_zero, List.getD_cons_succ]
    omega
  · exact (blocked (NetOk.nodes ok) h3 hB hC).elim
theorem live3 : ∃ S, lst ((3 : Nat) : Int) lv3 = ⟨[], [], S, 14⟩ ∧ cutE ((3 : Nat) : Int) lv3 S = 0 ∧ S.length ≤ 1000 := by
  obtain ⟨_, ok, hl⟩ := given_net lv3_g
  rcases lst_cases (n := 3) ok hl lv3_g with ⟨F, h1, h2, h3, h4⟩ | ⟨F, v, h1, h2, h3⟩
  · exfalso
    obtain ⟨a, b, c, d, rfl⟩ := four_of h2 rfl
    have h5 := circ3 h3
    simp [bal, lv3, inB] at h2 h5
    omega
  · refine ⟨_, h1, lst_cut ok lv3_g h3, ?_⟩
    unfold blkL
    rw [List.length_map]
    exact Nat.le_trans (List.length_filter_le _ _) (by rw [List.length_range]; omega)
end Go.Fl
namespace Go.Proofs.Ytkpidpmlehkjbaa
open Go.V Go.RowKit Go.L Go.Lx Go.Fl
set_option maxRecDepth 10000
set_option maxHeartbeats 4000000
theorem lSame_ok (A B : List Int) (hA : A.length ≤ 9223372036854775807) (hB : B.length ≤ 9223372036854775807) : Ok Try.prog 23 [] [] (.pair (liV A) (.pair (liV B) .nul)) (fun r h' => r = .bool (decide (A = B)) ∧ h' = []) := by
  by_cases hlen : A.length = B.length
  · refine Ok.of_vcC tt_ok Try.func23 rfl rfl (by show 2 ≤ _; decide) 0 (hlt_ok (by rfl)) fun c0 => ?_
    repeat' (first | (refine SS_ ?_) | (refine VC.litF (by rfl) LFA_ ?_) | fail)
    refine VC.loop (fun k : Nat => ⟨[(5, .int .i64 (k : Nat)), (1, liV B), (0, liV A)], [], [], 0⟩) (fun k => k ≤ A.length ∧ ∀ j, j < k → A.getD j 0 = B.getD j 0) (fun k => A.length - k) 0 ⟨by omega, fun j hj => absurd hj (Nat.not_lt_zero _)⟩ (Sim.less [] (by rfl) R_ R_) fun k hk => ?_
    obtain ⟨hk, hall⟩ := hk
    by_cases hkn : k < A.length
    · have hg1 : A.getD ((k : Nat) : Int).toNat 0 = A.getD k 0 := by rw [Int.toNat_natCast]
      have hg2 : B.getD ((k : Nat) : Int).toNat 0 = B.getD k 0 := by rw [Int.toNat_natCast]
      repeat' (first | (refine SS_ ?_) | (refine VC.drawm (id := 6) [(0, 0), (1, 0), (2, 3), (3, 7), (4, 0), (5, 0), (6, 48), (7, 112), (8, 255)] [] (by rfl) (by kernel_rfl) (by rfl) ?_) | (refine VC.litT (by rfl) LTR_ ?_) | (refine DD_ ?_) | (refine VC.cond (by rfl) (fun hb => ?_) (fun hb => ?_) <;> (fail_if_success (with_reducible have := litT_ hb)) <;> (fail_if_success (with_reducible have := litF_ hb)) <;> (try simp only [HB_] at hb) <;> (try (exfalso; first | omega | (cases hb; done)))) | fail)
      · rw [decide_eq_false (fun e : A = B => by subst e; omega)]
        (refine retC_mk ([(4, .bool false)]) ([]) 0 (Sim.less [] (by rfl) R_ R_) (retQ_ok (by rfl) ([]) (fun i av h => h) ⟨?_, ?_⟩)) <;> rfl
      · refine ⟨k + 1, ⟨by omega, fun j hj => ?_⟩, by omega, by exact (Sim.less [] (by rfl) R_ R_)⟩
        rcases Nat.lt_or_ge j k with h | h
        · exact hall j h
        · obtain rfl : j = k := by omega
          omega
    · repeat' (first | (refine SS_ ?_) | (refine VC.litF (by rfl) LFA_ ?_) | fail)
      have e : A = B := List.ext_getElem hlen fun j h1 h2 => by
        have := hall j (by omega)
        rw [List.getD_eq_getElem?_getD, List.getElem?_eq_getElem h1, List.getD_eq_getElem?_getD, List.getElem?_eq_getElem h2] at this
        exact this
      rw [decide_eq_true e]
      (refine retC_mk ([(4, .bool true)]) ([]) 0 (Sim.less [] (by rfl) R_ R_) (retQ_ok (by rfl) ([]) (fun i av h => h) ⟨?_, ?_⟩)) <;> rfl
  · have hne : A ≠ B := fun e => hlen (by rw [e])
    rw [decide_eq_false hne]
    refine Ok.of_vcC tt_ok Try.func23 rfl rfl (by show 2 ≤ _; decide) 0 (hlt_ok (by rfl)) fun c0 => ?_
    repeat' (first | (refine SS_ ?_) | (refine VC.litT (by rfl) LTR_ ?_) | fail)
    (refine retC_mk ([(4, .bool false)]) ([]) 0 (Sim.less [] (by rfl) R_ R_) (retQ_ok (by rfl) ([]) (fun i av h => h) ⟨?_, ?_⟩)) <;> rfl
theorem lives_ok : Ok Try.prog 13 [] [] .nul (fun r h' => r = .bool true ∧ h' = []) := by
  obtain ⟨V1, e1⟩ := live1
  obtain ⟨F2, V2, e2, l2, k2, s2, b1, b2, b3, b4, b5, b6⟩ := live2
  obtain ⟨S, e3, k3, s3⟩ := live3
  have c1 := least_ok ((3 : Nat) : Int) lv1 (by decide)
  have c2 := least_ok ((3 : Nat) : Int) lv2 (by decide)
  have c3 := least_ok ((3 : Nat) : Int) lv3 (by decide)
  have t0 : F2.getD (Int.toNat 0) 0 = F2.getD 0 0 := rfl
  have t1 : F2.getD (Int.toNat 1) 0 = F2.getD 1 0 := rfl
  have t3 : F2.getD (Int.toNat 3) 0 = F2.getD 3 0 := rfl
  have hVl : V2.length = 3 := by
    by_cases h : ChkP ((3 : Nat) : Int) lv2 F2 V2
    · have := h.m
      omega
    · rw [chk_no lv2_g h] at k2
      cases k2
  have c4 := check_ok ((3 : Nat) : Int) lv2 F2 V2 (by decide) (by omega) (by omega)
  have c5 := cut_ok ((3 : Nat) : Int) lv3 S (by decide) (by omega)
  have c6 := lSame_ok [0, 3, 3, 3] [0, 3, 3, 3] (by decide) (by decide)
  replace c1 : Ok Try.prog 14 [] [] (.pair (.int .i64 ((3 : Nat) : Int)) (.pair (edV lv1) .nul)) (fun r h' => r = .tup (.pair (.pair (lsV [0, 3, 3, 3]) (.pair (lsV V1) .nul)) (.pair (lsV []) (.pair (.int .i64 0) .nul))) ∧ h' = []) := by rw [e1] at c1; exact c1
  replace c2 : Ok Try.prog 14 [] [] (.pair (.int .i64 ((3 : Nat) : Int)) (.pair (edV lv2) .nul)) (fun r h' => r = .tup (.pair (.pair (lsV F2) (.pair (lsV V2) .nul)) (.pair (lsV []) (.pair (.int .i64 0) .nul))) ∧ h' = []) := by rw [e2] at c2; exact c2
  replace c3 : Ok Try.prog 14 [] [] (.pair (.int .i64 ((3 : Nat) : Int)) (.pair (edV lv3) .nul)) (fun r h' => r = .tup (.pair (.pair (lsV []) (.pair (lsV []) .nul)) (.pair (lsV S) (.pair (.int .i64 14) .nul))) ∧ h' = []) := by rw [e3] at c3; exact c3
  rw [k2] at c4
  rw [k3] at c5
  rw [decide_eq_true rfl] at c6
  refine Ok.of_vcC tt_ok Try.func13 rfl rfl (by show 0 ≤ _; decide) 0 (hlt_ok (by rfl)) fun c0 => ?_
  repeat' (first | (refine SS_ ?_) | fail)
  refine Seq.conv (s' := ⟨[(18, .sl 0 [] 5 0 4), (1, .sl 0 [] 5 0 4)], [(0, .arr 4 5 (fun i => edA (lv1.getD i edZ)))], [], 1⟩) (by
    (refine Sim.less [] (by rfl) ?_ ?_ <;> (repeat' (first | (exact EnvLe.nil) | (exact HeapLe.nil) | (with_reducible apply EnvLe.cons) | (with_reducible apply HeapLe.cons) | (exact rfl) | (exact ⟨rfl, rfl⟩) | ((refine RelA.arr ?_; intro i hi)) | fail)) <;> (try with_reducible refine Keep.mk ?_))
    all_goals (
      rcases (by omega : i = 0 ∨ i = 1 ∨ i = 2 ∨ i = 3) with rfl | rfl | rfl | rfl <;> exact NoId.self NI_)) ?_
  repeat' (first | (refine SS_ ?_) | (refine Seq.callp true (c1) Try.func14 GOk.nil subG.nil (by rfl) (by rfl) rfl rfl rfl rfl rfl (by rfl) rfl VW_ NI_ NI_ FR_ ?_) | fail)
  refine Seq.conv (s' := ⟨[(27, .sl 0 [] 5 0 4), (1, .sl 0 [] 5 0 4), (4, .int .i64 0), (2, .ptr 1 [])], [(1, .pair (lsV [0, 3, 3, 3]) (.pair (lsV V1) .nul)), (0, .arr 4 5 (fun i => edA (lv2.getD i edZ)))], [], 2⟩) (by
    (refine Sim.less [] (by rfl) ?_ ?_ <;> (repeat' (first | (exact EnvLe.nil) | (exact HeapLe.nil) | (with_reducible apply EnvLe.cons) | (with_reducible apply HeapLe.cons) | ((with_reducible refine RelA.int ?_; first | (refine Keep.mk ?_; first | with_reducible rfl | omega | decide) | skip)) | (exact rfl) | (exact ⟨rfl, rfl⟩) | ((with_reducible refine RelA.rsl ?_; intro i hi)) | ((with_reducible refine RelA.arr ?_; intro i hi)) | (with_reducible refine RelA.pair ?_ ?_) | fail)) <;> (try with_reducible refine Keep.mk ?_))
    all_goals (
      rcases (by omega : i = 0 ∨ i = 1 ∨ i = 2 ∨ i = 3) with rfl | rfl | rfl | rfl <;> exact NoId.self NI_)) ?_
  repeat' (first | (refine SS_ ?_) | (refine Seq.callp true (c2) Try.func14 GOk.nil subG.nil (by rfl) (by rfl) rfl rfl rfl rfl rfl (by rfl) rfl VW_ NI_ NI_ FR_ ?_) | fail)
  refine Seq.conv (s' := ⟨[(33, ceV F2 V2), (32, .sl 0 [] 5 0 4), (1, .sl 0 [] 5 0 4), (4, .int .i64 0), (2, .ptr 1 []), (7, .int .i64 0), (5, .ptr 2 [])], [(2, .pair (lsV F2) (.pair (lsV V2) .nul)), (1, .pair (lsV [0, 3, 3, 3]) (.pair (lsV V1) .nul)), (0, .arr 4 5 (fun i => edA (lv2.getD i edZ)))], [], 3⟩) (by
    exact (Sim.less [] (by rfl) R_ R_)) ?_
  repeat' (first | (refine SS_ ?_) | (refine Seq.callp true (c4) Try.func18 GOk.nil subG.nil (by rfl) (by rfl) rfl rfl rfl rfl rfl (by rfl) rfl VW_ NI_ NI_ FR_ ?_) | fail)
  refine Seq.conv (s' := ⟨[(42, .sl 0 [] 5 0 4), (1, .sl 0 [] 5 0 4), (4, .int .i64 0), (2, .ptr 1 []), (7, .int .i64 0), (5, .ptr 2 []), (8, .int .i64 0)], [(2, .pair (lsV F2) (.pair (lsV V2) .nul)), (1, .pair (lsV [0, 3, 3, 3]) (.pair (lsV V1) .nul)), (0, .arr 4 5 (fun i => edA (lv3.getD i edZ)))], [], 3⟩) (by
    (refine Sim.less [] (by rfl) ?_ ?_ <;> (repeat' (first | (exact EnvLe.nil) | (exact HeapLe.nil) | (with_reducible apply EnvLe.cons) | (with_reducible apply HeapLe.cons) | ((with_reducible refine RelA.int ?_; first | (refine Keep.mk ?_; first | with_reducible rfl | omega | decide) | skip)) | (exact rfl) | (exact ⟨rfl, rfl⟩) | ((with_reducible refine RelA.rsl ?_; intro i hi)) | ((with_reducible refine RelA.arr ?_; intro i hi)) | (with_reducible refine RelA.pair ?_ ?_) | fail)) <;> (try with_reducible refine Keep.mk ?_))
    all_goals (
      rcases (by omega : i = 0 ∨ i = 1 ∨ i = 2 ∨ i = 3) with rfl | rfl | rfl | rfl <;> exact NoId.self NI_)) ?_
  repeat' (first | (refine SS_ ?_) | (refine Seq.callp true (c3) Try.func14 GOk.nil subG.nil (by rfl) (by rfl) rfl rfl rfl rfl rfl (by rfl) rfl VW_ NI_ NI_ FR_ ?_) | (refine VC.drawm (id := 11) [(0, 0), (1, 1), (2, 0), (3, 7), (4, 15), (5, 31), (6, 63), (7, 127), (8, 255), (9, 511), (10, 31), (11, 1055), (12, 3103), (13, 7199), (14, 16383), (15, 31), (16, 32799), (17, 98335), (18, 229407), (19, 524287), (20, 1048575), (21, 2097151), (22, 4194303), (23, 8388607), (24, 8388607), (25, 33554431), (26, 67108863), (27, 134217727)] [28] (by rfl) (by kernel_rfl) (by rfl) ?_) | (refine DSeq.callp true (c6) Try.func23 GOk.nil subG.nil (by rfl) (fastE (by rfl)) (fastH (by rfl)) (by rfl) (by rfl) rfl rfl rfl rfl rfl (by rfl) (by rfl) VW_ NI_ NI_ FR_ ?_) | (refine DSeq.callp true (c5) Try.func21 GOk.nil subG.nil (by rfl) (fastE (by rfl)) (fastH (by rfl)) (by rfl) (by rfl) rfl rfl rfl rfl rfl (by rfl) (by rfl) VW_ NI_ NI_ FR_ ?_) | (refine VC.litF (by rfl) LFA_ ?_) | (refine DD_ ?_) | (refine DSeq.lit2 (by rfl) (by rfl) (by rfl) LT2_ (by rfl) ?_) | fail)
  (refine retC_mk ([(0, .bool true)]) ([]) 5 (Sim.less [] (by rfl) R_ R_) (retQ_ok (by rfl) ([]) (fun i av h => h) ⟨?_, ?_⟩)) <;> rfl
end Go.Proofs.Ytkpidpmlehkjbaa
