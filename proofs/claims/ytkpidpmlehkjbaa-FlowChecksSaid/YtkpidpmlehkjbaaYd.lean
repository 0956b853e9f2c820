/- Flow: FlowChecks. -/
import Derived.Test.YtkpidpmlehkjbaaZz
import Derived.Test.YtkpidpmlehkjbaaZp
import Derived.Test.YtkpidpmlehkjbaaZg
import Derived.Test.YtkpidpmlehkjbaaZl
set_option linter.unusedSimpArgs false
set_option linter.unusedVariables false
namespace Go.Proofs.Ytkpidpmlehkjbaa
open Go.V Go.RowKit Go.L Go.Lx Go.Fl
set_option maxRecDepth 10000
set_option maxHeartbeats 4000000
theorem tdiv4_i64 {a : Int} (h : I64 a) : I64 (Int.tdiv a 4) := by
  unfold I64 at *
  rcases Int.le_total 0 a with h0 | h0
  · rw [Int.tdiv_eq_ediv_of_nonneg h0]; constructor <;> omega
  · have e : Int.tdiv a 4 = -((-a) / 4) := by
      rw [show a = -(-a) by omega, Int.neg_tdiv, Int.tdiv_eq_ediv_of_nonneg (by omega), Int.neg_neg]
    rw [e]; constructor <;> omega
theorem wrap4_i64 {n : Int} (h : I64 n) : IntKind.i64.wrap n = n := by
  unfold I64 at h
  simp [IntKind.wrap, IntKind.signed, IntKind.bits]; omega
theorem bentX_len' {l : List Ed} (hl : l.length ≤ 9) (a b c : Int) : (bentX l a b c).length ≤ 300 := by
  unfold bentX
  have := around_lt c 9 (by omega)
  split
  · show 1 ≤ 300; omega
  · split
    · rw [List.length_set]; omega
    · rw [List.length_take]; omega
/-- Certificates, sets, edges that a function holds. -/
abbrev certsV (CL : List (List Int × List Int)) : AV := .rsl false 5 2 (fun i => ceV (CL.getD i ([], [])).1 (CL.getD i ([], [])).2)
abbrev setsV (SL : List (List Int)) : AV := .rsl false 4 1 (fun i => liV (SL.getD i []))
abbrev edgesV (EL : List (List Ed)) : AV := .rsl false 2 1 (fun i => edV (EL.getD i []))
theorem checks_law (l : List Int) (hl : IOk l) (a : Int) (h1 : I64 a) (h : Int) (h2 : I64 h) (b : Int) (h3 : I64 b) (raw : List Int) (hr : IOk raw) : Ok Try.prog 4 [] [] (.pair (liV l) (.pair (.int .i64 a) (.pair (.int .i64 h) (.pair (.int .i64 b) (.pair (liV raw) .nul))))) (fun r h' => r = .bool true ∧ h' = []) := by
  have cn := network_ok l hl
  have ok := net_ok l
  have hx : (netX l).length ≤ 9 := by rw [netX_len]; exact cnt_le l
  generalize netX l = x at *
  generalize netN l = n at *
  have co := own_ok x (by omega)
  have cl := least_ok n x (by omega)
  obtain ⟨x1, x2, x3⟩ := lst_len ok (by omega)
  generalize lst (n : Int) x = R at *
  obtain ⟨F, L, S, e⟩ := R
  replace cl : Ok Try.prog 14 [] [] (.pair (.int .i64 (n : Nat)) (.pair (edV x) .nul)) (fun r h' => r = .tup (.pair (.pair (lsV F) (.pair (lsV L) .nul)) (.pair (lsV S) (.pair (.int .i64 e) .nul))) ∧ h' = []) := cl
  replace x1 : F.length ≤ 256 := x1
  replace x2 : L.length ≤ 64 := x2
  replace x3 : S.length ≤ 64 := x3
  have ct := take_ok raw hr.1 6 (by decide)
  have tl : (raw.take 6).length ≤ 6 := by rw [List.length_take]; omega
  generalize raw.take 6 = few at *
  have hq := wrap4_i64 (tdiv4_i64 h2)
  have k1 := changed_ok F (by omega) a h1 h h2 b h3
  have k2 := changed_ok L (by omega) b h3 (IntKind.i64.wrap (Int.tdiv h 4)) (by rw [hq]; exact tdiv4_i64 h2) a h1
  have k3 := changed_ok S (by omega) a h1 h h2 b h3
  have g1 := chg_len F a h b
  have g2 := chg_len L b (IntKind.i64.wrap (Int.tdiv h 4)) a
  have g3 := chg_len S a h b
  have cb := bent_ok x (by omega) a h b h1 h2 h3
  have hb := bentX_len' hx a h b
  generalize chgL F a h b = F2 at *
  generalize chgL L b (IntKind.i64.wrap (Int.tdiv h 4)) a = L2 at *
  generalize chgL S a h b = S2 at *
  generalize bentX x a h b = y at *
  have cv := lives_ok
  refine Ok.of_vcC tt_ok Try.func4 rfl rfl (by show 5 ≤ _; decide) 0 (hlt_ok (by rfl)) fun c0 => ?_
  repeat' (first | (refine SS_ ?_) | (refine Seq.callp true (cn) Try.func9 GOk.nil subG.nil (by rfl) (by rfl) rfl rfl rfl rfl rfl (by rfl) rfl VW_ NI_ NI_ FR_ ?_) | (refine Seq.callp true (co) Try.func15 GOk.nil subG.nil (by rfl) (by rfl) rfl rfl rfl rfl rfl (by rfl) rfl VW_ NI_ NI_ FR_ ?_) | (refine Seq.callp true (cl) Try.func14 GOk.nil subG.nil (by rfl) (by rfl) rfl rfl rfl rfl rfl (by rfl) rfl VW_ NI_ NI_ FR_ ?_) | (refine Seq.callp true (ct) Try.func16 GOk.nil subG.nil (by rfl) (by rfl) rfl rfl rfl rfl rfl (by rfl) rfl VW_ NI_ NI_ FR_ ?_) | (refine VC.drawm (id := 4) [(0, 0), (1, 0), (2, 2), (3, 0), (4, 0), (5, 0), (6, 62), (7, 0), (8, 128), (9, 510), (10, 0), (11, 1024), (12, 0), (13, 4096), (14, 0), (15, 0), (16, 32768), (17, 0), (18, 258174), (19, 523390), (20, 0), (21, 1048576), (22, 0), (23, 7340032), (24, 0), (25, 33554431)] [26] (by rfl) (by kernel_rfl) (by rfl) ?_) | (refine DSeq.callp true (k1) Try.func17 GOk.nil subG.nil (by rfl) (fastE (by rfl)) (fastH (by rfl)) (by rfl) (by rfl) rfl rfl rfl rfl rfl (by rfl) (by rfl) VW_ NI_ NI_ FR_ ?_) | (refine DSeq.ev0 false tt_ok (by rfl) (fastE (by rfl)) (fastH (by rfl)) (by rfl) (by (first | exact trivial | exact u8_in _ rfl | exact u32_in _ rfl | ((with_reducible refine AllP.guard ?_); simp only [AllP, inI, fitV, maxK, inK, inbL, inb, List.append, List.cons_append, List.nil_append, true_and, and_true]; first | done | omega))) (by rfl) rfl (by rfl) ?_) | (refine DSeq.callp true (k2) Try.func17 GOk.nil subG.nil (by rfl) (fastE (by rfl)) (fastH (by rfl)) (by rfl) (by rfl) rfl rfl rfl rfl rfl (by rfl) (by rfl) VW_ NI_ NI_ FR_ ?_) | (refine Seq.callp true (k3) Try.func17 GOk.nil subG.nil (by rfl) (by rfl) rfl rfl rfl rfl rfl (by rfl) rfl VW_ NI_ NI_ FR_ ?_) | (refine Seq.callp true (cb) Try.func11 GOk.nil subG.nil (by rfl) (by rfl) rfl rfl rfl rfl rfl (by rfl) rfl VW_ NI_ NI_ FR_ ?_) | (refine DD_ ?_) | fail)
  refine VC.conv (Sim.stillN (e' := [(20, .int .i64 0), (19, edgesV [x, y]), (18, setsV [S, S2, few, []]), (17, certsV [(F, L), (F2, L), (F, L2), (F, few), ([], [])]), (11, .int .i64 (n : Nat))]) (h' := []) [1, 2, 3] (by rfl) HeapN.nil (EnvN.cons (by rfl) (.rel R_) (EnvN.cons (by rfl) (ViewN.sl (by rfl) rfl (by exact trivial) (by omega) rfl rfl fun i hi => by
    rcases (by omega : i = 0 ∨ i = 1) with rfl | rfl
    · show ViewN _ _ _ (edV x) (edT x)
      exact .rel R_
    · show ViewN _ _ _ (edV y) (edT y)
      exact .rel R_) (EnvN.cons (by rfl) (ViewN.sl (by rfl) rfl (by exact trivial) (by omega) rfl rfl fun i hi => by
    rcases (by omega : i = 0 ∨ i = 1 ∨ i = 2 ∨ i = 3) with rfl | rfl | rfl | rfl
    · show ViewN _ _ _ (liV S) (lsV S)
      exact .rel R_
    · show ViewN _ _ _ (liV S2) (lsV S2)
      exact .rel R_
    · show ViewN _ _ _ (liV few) (lsV few)
      exact .rel R_
    · show ViewN _ _ _ (liV []) (.val (.slice none 0 0))
      exact .nil) (EnvN.cons (by rfl) (ViewN.sl (by rfl) rfl (by exact trivial) (by omega) rfl rfl fun i hi => by
    rcases (by omega : i = 0 ∨ i = 1 ∨ i = 2 ∨ i = 3 ∨ i = 4) with rfl | rfl | rfl | rfl | rfl
    · show ViewN _ _ _ (ceV F L) (.pair (lsV F) (.pair (lsV L) .nul))
      exact .rel R_
    · show ViewN _ _ _ (ceV F2 L) (.pair (lsV F2) (.pair (lsV L) .nul))
      exact .rel R_
    · show ViewN _ _ _ (ceV F L2) (.pair (lsV F) (.pair (lsV L2) .nul))
      exact .rel R_
    · show ViewN _ _ _ (ceV F few) (.pair (lsV F) (.pair (lsV few) .nul))
      exact .rel R_
    · show ViewN _ _ _ (ceV [] []) (.pair (.val (.slice none 0 0)) (.pair (.val (.slice none 0 0)) .nul))
      exact .pair .nil (.pair .nil (.rel (NoId.self (a := .nul) NI_)))) (by repeat' (first | exact EnvN.nil | refine EnvN.cons (by rfl) (.rel R_) ?_))))))) ?_
  have hE : ∀ i, (([x, y] : List (List Ed)).getD i []).length ≤ 300 := fun i => by
    rcases i with _ | _ | i
    · show x.length ≤ 300; omega
    · exact hb
    · exact Nat.zero_le _
  have hC : ∀ i, (([(F, L), (F2, L), (F, L2), (F, few), ([], [])] : List (List Int × List Int)).getD i ([], [])).1.length ≤ 300 ∧ (([(F, L), (F2, L), (F, L2), (F, few), ([], [])] : List (List Int × List Int)).getD i ([], [])).2.length ≤ 300 := fun i => by
    rcases i with _ | _ | _ | _ | _ | i
    · exact ⟨by show F.length ≤ 300; omega, by show L.length ≤ 300; omega⟩
    · exact ⟨by show F2.length ≤ 300; omega, by show L.length ≤ 300; omega⟩
    · exact ⟨by show F.length ≤ 300; omega, by show L2.length ≤ 300; omega⟩
    · exact ⟨by show F.length ≤ 300; omega, by show few.length ≤ 300; omega⟩
    · exact ⟨Nat.zero_le _, Nat.zero_le _⟩
    · exact ⟨Nat.zero_le _, Nat.zero_le _⟩
  have hS : ∀ i, (([S, S2, few, []] : List (List Int)).getD i []).length ≤ 300 := fun i => by
    rcases i with _ | _ | _ | _ | i
    · show S.length ≤ 300; omega
    · show S2.length ≤ 300; omega
    · show few.length ≤ 300; omega
    · exact Nat.zero_le _
    · exact Nat.zero_le _
  generalize ([x, y] : List (List Ed)) = EL at *
  generalize ([(F, L), (F2, L), (F, L2), (F, few), ([], [])] : List (List Int × List Int)) = CL at *
  generalize ([S, S2, few, []] : List (List Int)) = SL at *
  clear cn co cl ct k1 k2 k3 cb
  refine VC.loop (fun i : Nat => ⟨[(20, .int .i64 (i : Nat)), (19, edgesV EL), (18, setsV SL), (17, certsV CL), (11, .int .i64 (n : Nat))], [], [], 4⟩) (fun i => i ≤ 2) (fun i => 2 - i) 0 (by omega) (Sim.less [] (by rfl) R_ R_) fun i hi => ?_
  by_cases hil : i < 2
  · have hX := hE ((i : Nat) : Int).toNat
    have co := own_ok (EL.getD ((i : Nat) : Int).toNat []) (by omega)
    repeat' (first | (refine SS_ ?_) | (refine VC.litT (by rfl) LTR_ ?_) | fail)
    refine VC.loop (fun k : Nat => ⟨[(21, .int .i64 (k : Nat)), (20, .int .i64 (i : Nat)), (19, edgesV EL), (18, setsV SL), (17, certsV CL), (11, .int .i64 (n : Nat))], [], [], 4⟩) (fun k => k ≤ 5) (fun k => 5 - k) 0 (by omega) (Sim.less [] (by rfl) R_ R_) fun k hk => ?_
    by_cases hkl : k < 5
    · obtain ⟨y1, y2⟩ := hC ((k : Nat) : Int).toNat
      have c1 := check_ok n (EL.getD ((i : Nat) : Int).toNat []) (CL.getD ((k : Nat) : Int).toNat ([], [])).1 (CL.getD ((k : Nat) : Int).toNat ([], [])).2 (by omega) (by omega) (by omega)
      have c2 := plain_ok (CL.getD ((k : Nat) : Int).toNat ([], [])).1 (CL.getD ((k : Nat) : Int).toNat ([], [])).2
      have c3 := rcheck_ok n (EL.getD ((i : Nat) : Int).toNat []) (CL.getD ((k : Nat) : Int).toNat ([], [])).1 (CL.getD ((k : Nat) : Int).toNat ([], [])).2 (by omega) (by omega) (by omega)
      generalize chkE n (EL.getD ((i : Nat) : Int).toNat []) (CL.getD ((k : Nat) : Int).toNat ([], [])).1 (CL.getD ((k : Nat) : Int).toNat ([], [])).2 = u at *
      repeat' (first | (refine SS_ ?_) | (refine VC.drawm (id := 13) [(0, 0), (1, 0), (2, 0), (3, 6), (4, 14), (5, 30), (6, 0), (7, 0), (8, 192), (9, 448), (10, 1023), (11, 0), (12, 0), (13, 0), (14, 12288), (15, 28672), (16, 0), (17, 0), (18, 196608), (19, 458752), (20, 985087), (21, 2097151), (22, 4194303)] [] (by rfl) (by kernel_rfl) (by rfl) ?_) | (refine DSeq.callp true (co) Try.func15 GOk.nil subG.nil (by rfl) (fastE (by rfl)) (fastH (by rfl)) (by rfl) (by rfl) rfl rfl rfl rfl rfl (by rfl) (by rfl) VW_ NI_ NI_ FR_ ?_) | (refine DSeq.callp true (c1) Try.func18 GOk.nil subG.nil (by rfl) (fastE (by rfl)) (fastH (by rfl)) (by rfl) (by rfl) rfl rfl rfl rfl rfl (by rfl) (by rfl) VW_ NI_ NI_ FR_ ?_) | (refine DSeq.callp false (c2) Try.func20 GOk.nil subG.nil (by rfl) (fastE (by rfl)) (fastH (by rfl)) (by rfl) (by rfl) rfl rfl rfl rfl rfl (by rfl) (by rfl) VW_ NI_ NI_ FR_ ?_) | (refine DSeq.callp true (c3) Try.func19 GOk.nil subG.nil (by rfl) (fastE (by rfl)) (fastH (by rfl)) (by rfl) (by rfl) rfl rfl rfl rfl rfl (by rfl) (by rfl) VW_ NI_ NI_ FR_ ?_) | (refine VC.litT (by rfl) LTR_ ?_) | (refine VC.litF (by rfl) LFA_ ?_) | (refine DD_ ?_) | fail)
      exact ⟨k + 1, by omega, by omega, by exact (Sim.less [] (by rfl) R_ R_)⟩
    · repeat' (first | (refine SS_ ?_) | (refine VC.litF (by rfl) LFA_ ?_) | fail)
      refine VC.loop (fun k : Nat => ⟨[(22, .int .i64 (k : Nat)), (20, .int .i64 (i : Nat)), (19, edgesV EL), (18, setsV SL), (17, certsV CL), (11, .int .i64 (n : Nat))], [], [], 4⟩) (fun k => k ≤ 4) (fun k => 4 - k) 0 (by omega) (Sim.less [] (by rfl) R_ R_) fun k hk => ?_
      by_cases hkl : k < 4
      · have y1 := hS ((k : Nat) : Int).toNat
        have c1 := cut_ok n (EL.getD ((i : Nat) : Int).toNat []) (SL.getD ((k : Nat) : Int).toNat []) (by omega) (by omega)
        have c3 := rcut_ok n (EL.getD ((i : Nat) : Int).toNat []) (SL.getD ((k : Nat) : Int).toNat []) (by omega) (by omega)
        generalize cutE n (EL.getD ((i : Nat) : Int).toNat []) (SL.getD ((k : Nat) : Int).toNat []) = u at *
        repeat' (first | (refine SS_ ?_) | (refine VC.drawm (id := 18) [(0, 0), (1, 0), (2, 0), (3, 6), (4, 14), (5, 30), (6, 0), (7, 0), (8, 192), (9, 448), (10, 1023), (11, 0), (12, 0), (13, 0), (14, 12288), (15, 28672), (16, 0), (17, 0), (18, 196608), (19, 458752), (20, 1048575), (21, 2097151)] [] (by rfl) (by kernel_rfl) (by rfl) ?_) | (refine DSeq.callp true (co) Try.func15 GOk.nil subG.nil (by rfl) (fastE (by rfl)) (fastH (by rfl)) (by rfl) (by rfl) rfl rfl rfl rfl rfl (by rfl) (by rfl) VW_ NI_ NI_ FR_ ?_) | (refine DSeq.callp true (c1) Try.func21 GOk.nil subG.nil (by rfl) (fastE (by rfl)) (fastH (by rfl)) (by rfl) (by rfl) rfl rfl rfl rfl rfl (by rfl) (by rfl) VW_ NI_ NI_ FR_ ?_) | (refine DSeq.callp true (c3) Try.func22 GOk.nil subG.nil (by rfl) (fastE (by rfl)) (fastH (by rfl)) (by rfl) (by rfl) rfl rfl rfl rfl rfl (by rfl) (by rfl) VW_ NI_ NI_ FR_ ?_) | (refine VC.litT (by rfl) LTR_ ?_) | (refine VC.litF (by rfl) LFA_ ?_) | (refine DD_ ?_) | fail)
        exact ⟨k + 1, by omega, by omega, by exact (Sim.less [] (by rfl) R_ R_)⟩
      · repeat' (first | (refine SS_ ?_) | (refine VC.litF (by rfl) LFA_ ?_) | fail)
        exact ⟨i + 1, by omega, by omega, by exact (Sim.less [] (by rfl) R_ R_)⟩
  · repeat' (first | (refine SS_ ?_) | (refine Seq.callp true (cv) Try.func13 GOk.nil subG.nil (by rfl) (by rfl) rfl rfl rfl rfl rfl (by rfl) rfl VW_ NI_ NI_ FR_ ?_) | (refine VC.litF (by rfl) LFA_ ?_) | fail)
    (refine retC_mk ([(10, .bool true)]) ([]) 4 (Sim.less [] (by rfl) R_ R_) (retQ_ok (by rfl) ([]) (fun i av h => h) ⟨?_, ?_⟩)) <;> rfl
end Go.Proofs.Ytkpidpmlehkjbaa
