/- dioramalaw25.ReleaseRefused walks. Tables of a row as package variables by value. -/
import Derived.Test.YtdbebdjnpckfdaaDoorMe
import Derived.Test.YtdbebdjnpckfdaaDoorRl
import Derived.Test.YtdbebdjnpckfdaaDoorFv
import Derived.Test.YtdbebdjnpckfdaaDoorGd
import Derived.Test.YtdbebdjnpckfdaaDoorFd
import Derived.Lib.LaidTab
import Derived.Deep.DeepHandedRow
set_option linter.unusedSimpArgs false
set_option linter.unusedVariables false
namespace Go.Proofs.YtdbebdjnpckfdaaDoor
open Go.V Go.RowKit Go.U Go.L Go.Lx Go.Dw Go.Rl Go.Rt Go.Bg
set_option maxRecDepth 10000
set_option maxHeartbeats 4000000
abbrev bkI (x y z w : Nat) (b : Bk) : AV := .pair (.sl x [] 4 0 b.A.length) (.pair (.sl y [] 4 0 b.O.length) (.pair (.sl z [] 1 0 b.W.length) (.pair (.sl w [] 1 0 b.R.length) .nul)))
theorem rot_rel {A : Nat → Prop} {σ : Nat → Nat} {R : List Row} {n i : Nat} (hn : n ≤ R.length) (hi : i < R.length) : RelA A σ (rowA ((rot R n).getD i rowZ)) (joinF (R.length - n) (fun i => (fun i => rowA (R.getD i rowZ)) (n + i)) (fun i => (fun i => rowA (R.getD i rowZ)) (0 + i)) i) := by
  have hd : (R.drop n).length = R.length - n := List.length_drop
  by_cases h : i < R.length - n
  · rw [joinF_lt h]
    have e : (rot R n).getD i rowZ = R.getD (n + i) rowZ := by
      unfold rot
      rw [app_lt (by omega), List.getD_eq_getElem?_getD, List.getElem?_drop, ← List.getD_eq_getElem?_getD]
    rw [e]; exact NoId.self NI_
  · rw [joinF_ge (by omega)]
    have e : (rot R n).getD i rowZ = R.getD (0 + (i - (R.length - n))) rowZ := by
      unfold rot
      rw [Nat.zero_add, List.getD_eq_getElem?_getD, List.getElem?_append_right (by omega), hd, List.getElem?_take, if_pos (by omega), ← List.getD_eq_getElem?_getD]
    rw [e]; exact NoId.self NI_
theorem low_r {i v : Nat} {f : Int} (hi : i < 4) (hf : 0 ≤ f ∧ f < 3) (hv : v < 5) : drw [114] [11, (i : Int), f, (v : Int)] 0 < 280925220896768 := by
  have h := low_all (seed := [114]) (by decide) (I := 4) (F := 3) (V := 5) k_r (by decide) (by decide) (by decide) hi (show f.toNat < 3 by omega) hv
  rw [show ((f.toNat : Nat) : Int) = f by omega] at h
  exact h
theorem refused_ok (l : List Int) (hl : IOk l) (m : List Int) (hm : IOk m) (values : List Int) (hv : IOk values) (turn : Int) (ht : I64 turn) (field : Int) (hfi : I64 field) (cost : Int) (hco : I64 cost) : Ok Tryd.prog 3 gK [] (.pair (liV l) (.pair (liV m) (.pair (liV values) (.pair (.int .i64 turn) (.pair (.int .i64 field) (.pair (.int .i64 cost) .nul)))))) (fun r h' => r = .bool true ∧ h' = []) := by
  have c1 := made_ok l hl
  have hok := made_fine l
  have hR10 := made_len l
  have hS3 := madeS_bd l
  have hSv := fun i (h : i < (madeS l).length) => madeS_val h
  have hMS : (made l).S = madeS l := rfl
  rw [← hMS] at hS3 hSv
  clear hMS
  generalize made l = t at *
  obtain ⟨S, R⟩ := t
  change R.length ≤ 10 at hR10
  change 1 ≤ S.length ∧ S.length ≤ 3 at hS3
  change ∀ i, i < S.length → 1 ≤ S.getD i 0 ∧ S.getD i 0 ≤ 5 at hSv
  change Ok _ _ _ _ _ (fun r h' => r = tabV S R ∧ h' = []) at c1
  have c2 := own_ok S R (by omega)
  have c3 := lAround_ok turn (R.length + 1) ht
  have b3 := around_lt turn (R.length + 1) (by omega)
  have hst := fun i => othN_step values S R i
  have hln := fun i => othN_len values S R i
  have hvl := fun i => othV_len values S i
  have hvg : ∀ i k : Nat, k < S.length → (othV values S i).getD k 0 = atI values (8 * (i : Int) + (k : Int)) (S.getD k 0) := fun i k hk => by
    unfold othV
    rw [List.getD_eq_getElem?_getD, List.getElem?_map, List.getElem?_range hk]; rfl
  refine Ok.of_vcC tt_ok Tryd.func3 rfl rfl (by show 6 ≤ _; decide) 0 (hlt_ok (by rfl)) fun c0 => ?_
  repeat' (first | (refine SS_ ?_) | (refine Seq.callp false (c1) Tryd.func6 gK_ok subG.nil (by rfl) (by rfl) rfl rfl rfl rfl rfl (by rfl) rfl VW_ NI_ NI_ FR_ ?_) | (refine Seq.callp false (c2) Tryd.func5 gK_ok subG.nil (by rfl) (by rfl) rfl rfl rfl rfl rfl (by rfl) rfl VW_ NI_ NI_ FR_ ?_) | fail)
  refine VC.conv (s' := ⟨[(15, .int .i64 0), (14, .ptr 1 []), (13, .ptr 0 []), (1, liV m), (2, liV values), (3, .int .i64 turn), (4, .int .i64 field), (5, .int .i64 cost)], [(0, tabV S R), (1, .pair (liV S) (.pair nilS .nul))], gK, 2⟩) (Sim.less [] (by rfl) R_ R_) ?_
  refine VC.conv (Sim.ghostF 1 1 2 (fun i => rowA (([] : List Row).getD i rowZ)) (by rfl) (by rfl) (by rfl)) ?_
  refine VC.loop (fun i : Nat => ⟨[(15, .int .i64 (i : Nat)), (14, .ptr 1 []), (13, .ptr 0 []), (1, liV m), (2, liV values), (3, .int .i64 turn), (4, .int .i64 field), (5, .int .i64 cost)], [(0, tabV S R), (1, .pair (liV S) (.pair (.sl 2 [] 2 0 (othN values S R i).length) .nul)), (2, rowsO (othN values S R i))], gK, 3⟩) (fun i => i ≤ R.length) (fun i => R.length - i) 0 (by omega) (by
    (refine Sim.less [] (by rfl) ?_ ?_ <;> (repeat' (first | (exact EnvLe.nil) | (exact HeapLe.nil) | (with_reducible apply EnvLe.cons) | (with_reducible apply HeapLe.cons) | ((with_reducible refine RelA.int ?_; first | (refine Keep.mk ?_; first | with_reducible rfl | omega | decide) | skip)) | (exact rfl) | (exact ⟨rfl, rfl⟩) | ((with_reducible refine RelA.rsl ?_; intro i hi)) | (with_reducible refine RelA.pair ?_ ?_) | ((refine RelA.rsl ?_; intro i hi)) | ((refine RelA.arr ?_; intro i hi)) | fail)) <;> (try with_reducible refine Keep.mk ?_))
    all_goals exact rfl) fun i hi => ?_
  by_cases hil : i < R.length
  · have hst := hst i
    have hln := hln i
    have hvl := hvl i
    have hvg := hvg i
    generalize hT : othN values S R (i + 1) = T2 at *
    generalize othN values S R i = T at *
    generalize hVV : othV values S i = V at *
    repeat' (first | (refine SS_ ?_) | (refine VC.litT (by rfl) LTR_ ?_) | fail)
    refine VC.conv (Sim.ghost 16 1 (fun i => .int .i64 (([] : List Int).getD i 0)) (by rfl) (.inl rfl)) ?_
    refine VC.loop (fun k : Nat => ⟨[(17, .int .i64 (k : Nat)), (16, .sl 3 [] 1 0 (V.take k).length), (15, .int .i64 (i : Nat)), (14, .ptr 1 []), (13, .ptr 0 []), (1, liV m), (2, liV values), (3, .int .i64 turn), (4, .int .i64 field), (5, .int .i64 cost)], [(3, liO (V.take k)), (0, tabV S R), (1, .pair (liV S) (.pair (.sl 2 [] 2 0 T.length) .nul)), (2, rowsO T)], gK, 4⟩) (fun k => k ≤ S.length) (fun k => S.length - k) 0 (by omega) (by
      (refine Sim.less [] (by rfl) ?_ ?_ <;> (repeat' (first | (exact EnvLe.nil) | (exact HeapLe.nil) | (with_reducible apply EnvLe.cons) | (with_reducible apply HeapLe.cons) | ((with_reducible refine RelA.int ?_; first | (refine Keep.mk ?_; first | with_reducible rfl | omega | decide) | skip)) | (exact rfl) | (exact ⟨rfl, rfl⟩) | ((with_reducible refine RelA.rsl ?_; intro i hi)) | ((with_reducible refine RelA.arr ?_; intro i hi)) | (with_reducible refine RelA.pair ?_ ?_) | ((refine RelA.arr ?_; intro i hi)) | fail)) <;> (try with_reducible refine Keep.mk ?_))
      all_goals exact rfl) fun k hk => ?_
    by_cases hkl : k < S.length
    · have c4 := lAt_ok values hv (8 * (i : Int) + (k : Int)) (S.getD ((k : Nat) : Int).toNat 0)
      have hts : V.take (k + 1) = V.take k ++ [V.getD k 0] := take_snoc (by omega)
      rw [hvg k hkl, ← show S.getD ((k : Nat) : Int).toNat 0 = S.getD k 0 by rw [Int.toNat_natCast]] at hts
      have hTl : (V.take k).length = k := by rw [List.length_take]; omega
      generalize hU : V.take (k + 1) = U2 at *
      generalize V.take k = U at *
      repeat' (first | (refine SS_ ?_) | (refine Seq.callp false (c4) Tryd.func7 gK_ok subG.nil (by rfl) (by rfl) rfl rfl rfl rfl rfl (by rfl) rfl VW_ NI_ NI_ FR_ ?_) | (refine VC.litT (by rfl) LTR_ ?_) | fail)
      refine ⟨k + 1, by omega, by omega, ?_⟩
      rw [hU, hts]
      show ∀ a_1 w, _ → Sim _ ⟨[(17, .int .i64 ((k + 1 : Nat) : Int)), (16, .sl 3 [] 1 0 (U ++ [atI values (8 * (i : Int) + (k : Int)) (S.getD ((k : Nat) : Int).toNat 0)]).length), (15, .int .i64 (i : Nat)), (14, .ptr 1 []), (13, .ptr 0 []), (1, liV m), (2, liV values), (3, .int .i64 turn), (4, .int .i64 field), (5, .int .i64 cost)], [(3, .arr (U ++ [atI values (8 * (i : Int) + (k : Int)) (S.getD ((k : Nat) : Int).toNat 0)]).length 1 (fun j => .int .i64 ((U ++ [atI values (8 * (i : Int) + (k : Int)) (S.getD ((k : Nat) : Int).toNat 0)]).getD j 0))), (0, tabV S R), (1, .pair (liV S) (.pair (.sl 2 [] 2 0 T.length) .nul)), (2, rowsO T)], gK, 4⟩ a_1 w
      rw [List.length_append, List.length_singleton]
      (refine Sim.less [(3, 5)] (by rfl) ?_ ?_ <;> (repeat' (first | (exact EnvLe.nil) | (exact HeapLe.nil) | (with_reducible apply EnvLe.cons) | (with_reducible apply HeapLe.cons) | ((with_reducible refine RelA.int ?_; first | (refine Keep.mk ?_; first | with_reducible rfl | omega | decide) | skip)) | (exact rfl) | (exact ⟨rfl, rfl⟩) | ((with_reducible refine RelA.rsl ?_; intro i hi)) | ((with_reducible refine RelA.arr ?_; intro i hi)) | (with_reducible refine RelA.pair ?_ ?_) | ((refine RelA.arr ?_; intro i hi)) | fail)) <;> (try with_reducible refine Keep.mk ?_))
      exact rel_snocG (G := AV.int .i64) (fun e => NI_) (by assumption)
    · obtain rfl : k = S.length := by omega
      rw [← hvl, List.take_length]
      repeat' (first | (refine SS_ ?_) | (refine VC.litF (by rfl) LFA_ ?_) | fail)
      refine VC.conv (s' := ⟨[(16, .sl 3 [] 1 0 V.length), (15, .int .i64 (i : Nat)), (14, .ptr 1 []), (13, .ptr 0 []), (1, liV m), (2, liV values), (3, .int .i64 turn), (4, .int .i64 field), (5, .int .i64 cost)], [(3, liO V), (0, tabV S R), (1, .pair (liV S) (.pair (.sl 2 [] 2 0 T.length) .nul)), (2, rowsO T)], gK, 4⟩) (Sim.less [] (by rfl) R_ R_) ?_
      refine VC.conv (Sim.stillN (e' := [(16, liV V), (15, .int .i64 (i : Nat)), (14, .ptr 1 []), (13, .ptr 0 []), (1, liV m), (2, liV values), (3, .int .i64 turn), (4, .int .i64 field), (5, .int .i64 cost)]) (h' := [(0, tabV S R), (1, .pair (liV S) (.pair (.sl 2 [] 2 0 T.length) .nul)), (2, rowsO T)]) [3] (by rfl) (by repeat' (first | exact HeapN.nil | refine HeapN.cons (by rfl) (.rel R_) (by rfl) ?_)) (EnvN.cons (by rfl) (viewN_li' (by rfl) rfl rfl) (by repeat' (first | exact EnvN.nil | refine EnvN.cons (by rfl) (.rel R_) ?_)))) ?_
      have hk0 : ((i : Nat) : Int).toNat = i := Int.toNat_natCast i
      rw [← hk0] at hst
      rw [hk0] at hst
      repeat' (first | (refine SS_ ?_) | (refine VC.drawm (id := 11) [(0, 0), (1, 1), (2, 0), (3, 4), (4, 0), (5, 28), (6, 60), (7, 124), (8, 0), (9, 508), (10, 1020)] [11, 12, 13] (by rfl) (by kernel_rfl) (by rfl) ?_) | (refine DD_ ?_) | fail)
      refine ⟨i + 1, by omega, by omega, ?_⟩
      rw [hT, hst]
      show ∀ a_1 w, _ → Sim _ ⟨[(15, .int .i64 ((i + 1 : Nat) : Int)), (14, .ptr 1 []), (13, .ptr 0 []), (1, liV m), (2, liV values), (3, .int .i64 turn), (4, .int .i64 field), (5, .int .i64 cost)], [(0, tabV S R), (1, .pair (liV S) (.pair (.sl 2 [] 2 0 (T ++ [(⟨(R.getD ((i : Nat) : Int).toNat rowZ).p, V⟩ : Row)]).length) .nul)), (2, .arr (T ++ [(⟨(R.getD ((i : Nat) : Int).toNat rowZ).p, V⟩ : Row)]).length 2 (fun j => rowA ((T ++ [(⟨(R.getD ((i : Nat) : Int).toNat rowZ).p, V⟩ : Row)]).getD j rowZ)))], gK, 3⟩ a_1 w
      rw [List.length_append, List.length_singleton]
      (refine Sim.less [(2, 5)] (by rfl) ?_ ?_ <;> (repeat' (first | (exact EnvLe.nil) | (exact HeapLe.nil) | (with_reducible apply EnvLe.cons) | (with_reducible apply HeapLe.cons) | ((with_reducible refine RelA.int ?_; first | (refine Keep.mk ?_; first | with_reducible rfl | omega | decide) | skip)) | (exact rfl) | (exact ⟨rfl, rfl⟩) | ((with_reducible refine RelA.rsl ?_; intro i hi)) | (with_reducible refine RelA.pair ?_ ?_) | ((refine RelA.arr ?_; intro i hi)) | fail)) <;> (try with_reducible refine Keep.mk ?_))
      exact rel_snocG (G := rowA) (fun e => NI_) (by assumption)
  · obtain rfl : i = R.length := by omega
    have c5 := limits_ok m hm
    have c6 := new_yes (lmP m 40) (lmW m 40) (lmO m 3) (cost_r64 fun r hr => by
      obtain ⟨p, h1, h2, rfl⟩ := lm_P hr
      exact cost_one (by omega)) (cost_r64 fun r hr => by
      obtain ⟨p, h1, h2, rfl⟩ := lm_O hr
      exact cost_one (by omega)) (lm_new m)
    have hbok : BOk (lmB m) := new_bok (lm_new m)
    have c7 := lAround_ok field S.length hfi
    have b7 := around_lt field S.length (by omega)
    have c8 := lAround_ok cost 12 hco
    have b8 := around_lt cost 12 (by decide)
    have hUl := hln R.length
    have hUo := oth_ok hok values
    have hUp := pers_of hok hUo (by rw [othN_ps])
    clear hst hln hvl hvg
    generalize othN values S R R.length = U at *
    generalize aroundI turn (R.length + 1) = n at *
    generalize aroundI field S.length = f at *
    generalize aroundI cost 12 = co at *
    have hWl : (rot R n.toNat).length = R.length := (rot_perm R n.toNat).length_eq
    have hWo := rot_ok hok n.toNat
    have hWp := pers_of hok hWo ((rot_perm R n.toNat).map _)
    have hWc := fun f v => cnt_perm (rot_perm R n.toNat) f v
    have hrel := fun A σ i h => rot_rel (A := A) (σ := σ) (R := R) (n := n.toNat) (i := i) (by omega) h
    have hlen : R.length - n.toNat + (n.toNat - 0) = R.length := by omega
    repeat' (first | (refine SS_ ?_) | (refine Seq.callp false (c3) Tryd.func8 gK_ok subG.nil (by rfl) (by rfl) rfl rfl rfl rfl rfl (by rfl) rfl VW_ NI_ NI_ FR_ ?_) | (refine VC.drawG (id := 13) [(0, 0), (1, 1), (2, 0), (3, 0), (4, 8), (5, 0), (6, 56), (7, 124), (8, 0), (9, 256), (10, 0), (11, 1792), (14, 0)] [0, 1, 14] 12 104 13 105 4095 [15] (by rfl) (by kernel_rfl) (by rfl) (by rfl) (by rfl) (by rfl) ?_) | (refine DSeq.nil (late_endG true tt_ok (by rfl) (by rfl) (by rfl) (by (first | exact trivial | exact u8_in _ rfl | exact u32_in _ rfl | ((with_reducible refine AllP.guard ?_); simp only [AllP, inI, fitV, maxK, inK, inbL, inb, List.append, List.cons_append, List.nil_append, true_and, and_true]; first | done | omega))) (by rfl) (by rfl) (by rfl) (by repeat (first | exact trivial | refine ⟨trivial, ?_⟩ | refine ⟨lateXF (by rfl) (late_evF true tt_ok (by rfl) (by rfl) (by rfl) (by rfl) (by (first | exact trivial | exact u8_in _ rfl | exact u32_in _ rfl | ((with_reducible refine AllP.guard ?_); simp only [AllP, inI, fitV, maxK, inK, inbL, inb, List.append, List.cons_append, List.nil_append, true_and, and_true]; first | done | omega)))), ?_⟩ | refine ⟨lateXF (by rfl) (late_newF true tt_ok (by rfl) (by rfl) (by rfl) (by rfl) (by (first | exact trivial | exact u8_in _ rfl | exact u32_in _ rfl | ((with_reducible refine AllP.guard ?_); simp only [AllP, inI, fitV, maxK, inK, inbL, inb, List.append, List.cons_append, List.nil_append, true_and, and_true]; first | done | omega)))), ?_⟩)) (by rfl) (late_evF true tt_ok (by rfl) (by rfl) (by rfl) (by rfl) (by (first | exact trivial | exact u8_in _ rfl | exact u32_in _ rfl | ((with_reducible refine AllP.guard ?_); simp only [AllP, inI, fitV, maxK, inK, inbL, inb, List.append, List.cons_append, List.nil_append, true_and, and_true]; first | done | omega)))) (by rfl) (by rfl) ?_)) | (refine VC.litF (by rfl) LFA_ ?_) | (refine DD_ ?_) | fail)
    rw [hlen]
    generalize rot R n.toNat = W at *
    refine Seq.conv (s' := ⟨[(107, liV m), (19, .ptr 3 []), (14, .ptr 1 []), (13, .ptr 0 []), (4, .int .i64 field), (5, .int .i64 cost)], [(5, .arr R.length 2 (fun i => rowA (W.getD i rowZ))), (3, .pair (liV S) (.pair (.sl 5 [] 2 0 R.length) .nul)), (2, .arr U.length 2 (fun i => rowA (U.getD i rowZ))), (1, .pair (liV S) (.pair (.sl 2 [] 2 0 U.length) .nul)), (0, tabV S R)], gK, 6⟩) (by
      (refine Sim.less [(3, 4)] (by rfl) ?_ ?_ <;> (repeat' (first | (exact EnvLe.nil) | (exact HeapLe.nil) | (with_reducible apply EnvLe.cons) | (with_reducible apply HeapLe.cons) | ((with_reducible refine RelA.int ?_; first | (refine Keep.mk ?_; first | with_reducible rfl | omega | decide) | skip)) | (exact rfl) | (exact ⟨rfl, rfl⟩) | ((with_reducible refine RelA.rsl ?_; intro i hi)) | ((with_reducible refine RelA.arr ?_; intro i hi)) | (with_reducible refine RelA.pair ?_ ?_) | ((refine RelA.rsl ?_; intro i hi)) | ((refine RelA.arr ?_; intro i hi)) | (refine RelA.pair ?_ ?_) | fail)) <;> (try with_reducible refine Keep.mk ?_))
      exact hrel _ _ _ (by assumption)) ?_
    refine Seq.conv (Sim.stillN (e' := [(107, liV m), (19, .ptr 3 []), (14, .ptr 1 []), (13, .ptr 0 []), (4, .int .i64 field), (5, .int .i64 cost)]) (h' := [(3, tabV S W), (1, tabV S U), (0, tabV S R)]) [2, 5] (by rfl) (HeapN.cons (by rfl) (.pair (.rel R_) (.pair (viewN_rows (by rfl) rfl hWl) (.rel R_))) (by rfl) (HeapN.cons (by rfl) (.pair (.rel R_) (.pair (viewN_rows (by rfl) rfl rfl) (.rel R_))) (by rfl) (by repeat' (first | exact HeapN.nil | refine HeapN.cons (by rfl) (.rel R_) (by rfl) ?_)))) (by repeat' (first | exact EnvN.nil | refine EnvN.cons (by rfl) (.rel R_) ?_))) ?_
    clear hrel hlen c1 c2 c3
    repeat' (first | (refine SS_ ?_) | (refine Seq.callo false [] [(6, 0), (7, 1), (8, 2), (9, 3), (10, 4)] (.tup (.pair (.ptr 6 []) (.pair (.int .i64 0) .nul))) ([(6, bkI 7 8 9 10 (lmB m)), (7, acsO (lmB m).A), (8, acsO (lmB m).O), (9, liO (lmB m).W), (10, boO (lmB m).R)]) 11 (c6) Tryd.func10 gK_ok subG.nil (by rfl) (by rfl) rfl rfl rfl rfl rfl (by rfl) rfl (by rfl) (by rfl) (by rfl) (by rfl) VW_ NI_ R_ (noFrL_ok NI_) BK_ ?_) | (refine Seq.callp false (c7) Tryd.func8 gK_ok subG.nil (by rfl) (by rfl) rfl rfl rfl rfl rfl (by rfl) rfl VW_ NI_ NI_ FR_ ?_) | (refine Seq.callp false (c8) Tryd.func8 gK_ok subG.nil (by rfl) (by rfl) rfl rfl rfl rfl rfl (by rfl) rfl VW_ NI_ NI_ FR_ ?_) | (refine Seq.callq false (c5) Tryd.func9 GG_ SG_ (by rfl) rfl rfl rfl (by rfl) rfl VW_ NI_ NI_ FR_ ?_) | (refine VC.litF (by rfl) LFA_ ?_) | fail)
    have hck := check_fine hok (f := f) (k := 1 + co) (by omega) (by omega)
    have hckU := check_fine hUo (f := f) (k := 1 + co) (by omega) (by omega)
    have hckW := check_fine hWo (f := f) (k := 1 + co) (by omega) (by omega)
    have hPl := pers_ln S R
    have hlb := askN_ok hbok (P := pers ⟨S, R⟩) (by omega) ⟨1 + co, 1⟩
    have hSf := hSv f.toNat (by omega)
    have hB0 : askN (lmB m) (pers ⟨S, R⟩) ⟨1 + co, 1⟩ 0 = lmB m := rfl
    have hBs : ∀ i, askN (lmB m) (pers ⟨S, R⟩) ⟨1 + co, 1⟩ (i + 1) = askB (askN (lmB m) (pers ⟨S, R⟩) ⟨1 + co, 1⟩ i) (pers ⟨S, R⟩) ⟨1 + co, 1⟩ := fun i => rfl
    generalize hB : askN (lmB m) (pers ⟨S, R⟩) ⟨1 + co, 1⟩ = B at *
    refine VC.loop (fun i : Nat => ⟨[(27, .int .i64 (i : Nat)), (26, .int .i64 (1 + co)), (25, .int .i64 f), (23, .ptr 6 []), (19, .ptr 3 []), (14, .ptr 1 []), (13, .ptr 0 [])], [(6, bkI 7 8 9 10 (B i)), (7, acsO (B i).A), (8, acsO (B i).O), (9, liO (B i).W), (10, boO (B i).R), (3, tabV S W), (1, tabV S U), (0, tabV S R)], gK, 11⟩) (fun i => i ≤ 4) (fun i => 4 - i) 0 (by omega) (by
      rw [hB0]
      exact (Sim.less [] (by rfl) R_ R_)) fun i hi => ?_
    by_cases hil : i < 4
    · have hnx := hBs i
      have hb := hlb i
      generalize hB2 : B (i + 1) = b2 at *
      generalize B i = b at *
      clear hBs hB0 hB
      have k1 := copy_ok b hb
      by_cases hE : askE b (pers ⟨S, R⟩) ⟨1 + co, 1⟩ = 0
      · have d1 := rask_fine b hb S U [114] (by decide) i f (1 + co) (by omega) hckU (by rw [hUp]; exact hE) (fun v hv => low_r hil (by omega) (by omega))
        have d2 := rask_fine b hb S W [114] (by decide) i f (1 + co) (by omega) hckW (by rw [hWp]; exact hE) (fun v hv => low_r hil (by omega) (by omega))
        have d3 := rask_fine b hb S R [114] (by decide) i f (1 + co) (by omega) hck hE (fun v hv => low_r hil (by omega) (by omega))
        have hCW : cntsV [114] i f (1 + co) S W = cntsV [114] i f (1 + co) S R := by
          unfold cntsV
          refine List.map_congr_left fun v _ => ?_
          have h1 := hWc f.toNat (v : Int)
          unfold Rl.cnt at h1
          rw [many_get, many_get, h1]
        rw [hUp] at d1
        rw [hWp, hCW] at d2
        clear hCW
        rw [← hnx] at d1 d2 d3
        have hul := cntsV_len [114] i f (1 + co) S U
        have hcl := cntsV_len [114] i f (1 + co) S R
        have hcb : badL (1 + co) (cntsV [114] i f (1 + co) S R) = false := by
          unfold badL
          refine (any_false (d := 0)).2 fun v hv => decide_eq_false ?_
          rw [hcl] at hv
          rw [cntsV_get _ _ _ _ _ _ hv]
          have := noiV_bd (m := most (1 + co)) (k := 1 + co) (c := min (most (1 + co)) (mGet (manyTo R f.toNat R.length) v)) (w := drw [114] [11, (i : Int), f, (v : Int)] 0) (by have := (most_fits (k := 1 + co) (by omega)).2; omega)
          omega
        generalize cntsV [114] i f (1 + co) S U = CU at *
        generalize cntsV [114] i f (1 + co) S R = C at *
        have e1 := lSame_ok C C (by omega) (by omega)
        rw [decide_eq_true rfl] at e1
        have e2 := rweight_fine S R f (1 + co) C (by omega) hck (by omega) hcb
        have hAl : ((List.range C.length).map (wOf R f (1 + co) C)).length = C.length := by rw [List.length_map, List.length_range]
        have hA1 : ∀ v, v < C.length → 1 ≤ ((List.range C.length).map (wOf R f (1 + co) C)).getD v 0 := fun v hv => by
          rw [List.getD_eq_getElem?_getD, List.getElem?_map, List.getElem?_range hv]
          show 1 ≤ wOf R f (1 + co) C v
          obtain ⟨m1, m2⟩ := most_fits (k := 1 + co) (by omega)
          have hb := of_decide_eq_false ((any_false (d := 0)).1 hcb v hv)
          exact (wt_bd m1 (by omega) (by omega)).1
        generalize (List.range C.length).map (wOf R f (1 + co) C) = Aw at *
        repeat' (first | (refine SS_ ?_) | (refine Seq.callo false [(0, 6), (1, 7), (2, 8), (3, 9), (4, 10)] [(11, 5), (12, 6), (13, 7), (14, 8), (15, 9), (6, 0), (7, 1), (8, 2), (9, 3), (10, 4)] (.ptr 11 []) ([(11, bkI 12 13 14 15 b), (12, acsO b.A), (13, acsO b.O), (14, liO b.W), (15, boO b.R), (6, bkI 7 8 9 10 b), (7, acsO b.A), (8, acsO b.O), (9, liO b.W), (10, boO b.R)]) 16 (k1) Tryd.func11 gK_ok subG.nil (by rfl) (by rfl) rfl rfl rfl rfl rfl (by rfl) rfl (by rfl) (by rfl) (by rfl) (by rfl) VW_ NI_ R_ (noFrL_ok NI_) BK_ ?_) | (refine Seq.callo false [(0, 6), (1, 7), (2, 8), (3, 9), (4, 10)] [(16, 5), (17, 6), (18, 7), (19, 8), (20, 9), (6, 0), (7, 1), (8, 2), (9, 3), (10, 4)] (.ptr 16 []) ([(16, bkI 17 18 19 20 b), (17, acsO b.A), (18, acsO b.O), (19, liO b.W), (20, boO b.R), (6, bkI 7 8 9 10 b), (7, acsO b.A), (8, acsO b.O), (9, liO b.W), (10, boO b.R)]) 21 (k1) Tryd.func11 gK_ok subG.nil (by rfl) (by rfl) rfl rfl rfl rfl rfl (by rfl) rfl (by rfl) (by rfl) (by rfl) (by rfl) VW_ NI_ R_ (noFrL_ok NI_) BK_ ?_) | (refine Seq.callo false [(0, 11), (1, 12), (2, 13), (3, 14), (4, 15)] [(11, 0), (21, 7), (22, 8), (23, 9), (24, 10)] (.tup (.pair (relV i f (1 + co) CU) (.pair (.int .i64 0) .nul))) ([(11, bkI 21 22 23 24 b2), (21, acsO b2.A), (22, acsO b2.O), (23, liO b2.W), (24, boO b2.R)]) 25 (d1) Tryd.func12 gK_ok subG.refl (by rfl) (by rfl) rfl rfl rfl rfl rfl (by rfl) rfl (by rfl) (by rfl) (by rfl) (by rfl) VW_ NI_ R_ (noFrL_ok NI_) BK_ ?_) | (refine Seq.callo false [(0, 16), (1, 17), (2, 18), (3, 19), (4, 20)] [(16, 0), (26, 7), (27, 8), (28, 9), (29, 10)] (.tup (.pair (relV i f (1 + co) C) (.pair (.int .i64 0) .nul))) ([(16, bkI 26 27 28 29 b2), (26, acsO b2.A), (27, acsO b2.O), (28, liO b2.W), (29, boO b2.R)]) 30 (d2) Tryd.func12 gK_ok subG.refl (by rfl) (by rfl) rfl rfl rfl rfl rfl (by rfl) rfl (by rfl) (by rfl) (by rfl) (by rfl) VW_ NI_ R_ (noFrL_ok NI_) BK_ ?_) | (refine Seq.callo false [(0, 6), (1, 7), (2, 8), (3, 9), (4, 10)] [(6, 0), (31, 7), (32, 8), (33, 9), (34, 10)] (.tup (.pair (relV i f (1 + co) C) (.pair (.int .i64 0) .nul))) ([(6, bkI 31 32 33 34 b2), (31, acsO b2.A), (32, acsO b2.O), (33, liO b2.W), (34, boO b2.R)]) 35 (d3) Tryd.func12 gK_ok subG.refl (by rfl) (by rfl) rfl rfl rfl rfl rfl (by rfl) rfl (by rfl) (by rfl) (by rfl) (by rfl) VW_ NI_ R_ (noFrL_ok NI_) BK_ ?_) | (refine Seq.callp false (e1) Tryd.func13 gK_ok subG.nil (by rfl) (by rfl) rfl rfl rfl rfl rfl (by rfl) rfl VW_ NI_ NI_ FR_ ?_) | (refine Seq.callp false (e2) Tryd.func14 gK_ok subG.nil (by rfl) (by rfl) rfl rfl rfl rfl rfl (by rfl) rfl VW_ NI_ NI_ FR_ ?_) | (refine VC.drawm (id := 32) [(0, 0), (1, 1), (2, 3), (3, 7), (4, 15), (5, 7), (6, 39), (7, 7), (8, 231), (9, 487), (10, 1023), (11, 2047), (12, 4095), (13, 8191), (14, 16383), (15, 32767), (16, 8191), (17, 73727), (18, 8191), (19, 466943), (20, 991231), (21, 2097151), (22, 4194303)] [] (by rfl) (by kernel_rfl) (by rfl) ?_) | (refine VC.litT (by rfl) LTR_ ?_) | (refine VC.litF (by rfl) LFA_ ?_) | (refine DD_ ?_) | (refine DSeq.lit2 (by rfl) (by rfl) (by rfl) LT2_ (by rfl) ?_) | fail)
        refine VC.loop (fun v : Nat => ⟨[(38, .int .i64 (v : Nat)), (36, liV Aw), (27, .int .i64 (i : Nat)), (26, .int .i64 (1 + co)), (25, .int .i64 f), (23, .ptr 6 []), (19, .ptr 3 []), (14, .ptr 1 []), (13, .ptr 0 [])], [(6, bkI 31 32 33 34 b2), (31, acsO b2.A), (32, acsO b2.O), (33, liO b2.W), (34, boO b2.R), (3, tabV S W), (1, tabV S U), (0, tabV S R)], gK, 36⟩) (fun v => v ≤ C.length) (fun v => C.length - v) 0 (by omega) (Sim.less [] (by rfl) R_ R_) fun v hv => ?_
        by_cases hvl : v < C.length
        · have h1 : 1 ≤ Aw.getD ((v : Nat) : Int).toNat 0 := by rw [Int.toNat_natCast]; exact hA1 v hvl
          repeat' (first | (refine SS_ ?_) | (refine VC.litT (by rfl) LTR_ ?_) | (refine VC.litF (by rfl) LFA_ ?_) | fail)
          exact ⟨v + 1, by omega, by omega, by exact (Sim.less [] (by rfl) R_ R_)⟩
        · obtain rfl : v = C.length := by omega
          repeat' (first | (refine SS_ ?_) | (refine VC.litF (by rfl) LFA_ ?_) | fail)
          exact ⟨i + 1, by omega, by omega, by
            rw [hB2]
            exact (Sim.less [(7, 31), (8, 32), (9, 33), (10, 34)] (by rfl) R_ R_)⟩
      · have d1 := rask_err b hb S U [114] (by decide) i f (1 + co) (by omega) hckU _ (by rw [hUp]) hE
        have d2 := rask_err b hb S W [114] (by decide) i f (1 + co) (by omega) hckW _ (by rw [hWp]) hE
        have d3 := rask_err b hb S R [114] (by decide) i f (1 + co) (by omega) hck _ rfl hE
        have hb2 : b2 = b := hnx.trans (if_neg hE)
        clear hnx
        generalize askE b (pers ⟨S, R⟩) ⟨1 + co, 1⟩ = E at *
        have e1 := lSame_ok [] [] (by decide) (by decide)
        rw [decide_eq_true rfl] at e1
        repeat' (first | (refine SS_ ?_) | (refine Seq.callo false [(0, 6), (1, 7), (2, 8), (3, 9), (4, 10)] [(11, 5), (12, 6), (13, 7), (14, 8), (15, 9), (6, 0), (7, 1), (8, 2), (9, 3), (10, 4)] (.ptr 11 []) ([(11, bkI 12 13 14 15 b), (12, acsO b.A), (13, acsO b.O), (14, liO b.W), (15, boO b.R), (6, bkI 7 8 9 10 b), (7, acsO b.A), (8, acsO b.O), (9, liO b.W), (10, boO b.R)]) 16 (k1) Tryd.func11 gK_ok subG.nil (by rfl) (by rfl) rfl rfl rfl rfl rfl (by rfl) rfl (by rfl) (by rfl) (by rfl) (by rfl) VW_ NI_ R_ (noFrL_ok NI_) BK_ ?_) | (refine Seq.callo false [(0, 6), (1, 7), (2, 8), (3, 9), (4, 10)] [(16, 5), (17, 6), (18, 7), (19, 8), (20, 9), (6, 0), (7, 1), (8, 2), (9, 3), (10, 4)] (.ptr 16 []) ([(16, bkI 17 18 19 20 b), (17, acsO b.A), (18, acsO b.O), (19, liO b.W), (20, boO b.R), (6, bkI 7 8 9 10 b), (7, acsO b.A), (8, acsO b.O), (9, liO b.W), (10, boO b.R)]) 21 (k1) Tryd.func11 gK_ok subG.nil (by rfl) (by rfl) rfl rfl rfl rfl rfl (by rfl) rfl (by rfl) (by rfl) (by rfl) (by rfl) VW_ NI_ R_ (noFrL_ok NI_) BK_ ?_) | (refine Seq.callo false [(0, 11), (1, 12), (2, 13), (3, 14), (4, 15)] [(11, 0), (21, 7), (22, 8), (23, 9), (24, 10)] (.tup (.pair relZ (.pair (.int .i64 E) .nul))) ([(11, bkI 21 22 23 24 b), (21, acsO b.A), (22, acsO b.O), (23, liO b.W), (24, boO b.R)]) 25 (d1) Tryd.func12 gK_ok subG.refl (by rfl) (by rfl) rfl rfl rfl rfl rfl (by rfl) rfl (by rfl) (by rfl) (by rfl) (by rfl) VW_ NI_ R_ (noFrL_ok NI_) BK_ ?_) | (refine Seq.callo false [(0, 16), (1, 17), (2, 18), (3, 19), (4, 20)] [(16, 0), (26, 7), (27, 8), (28, 9), (29, 10)] (.tup (.pair relZ (.pair (.int .i64 E) .nul))) ([(16, bkI 26 27 28 29 b), (26, acsO b.A), (27, acsO b.O), (28, liO b.W), (29, boO b.R)]) 30 (d2) Tryd.func12 gK_ok subG.refl (by rfl) (by rfl) rfl rfl rfl rfl rfl (by rfl) rfl (by rfl) (by rfl) (by rfl) (by rfl) VW_ NI_ R_ (noFrL_ok NI_) BK_ ?_) | (refine Seq.callo false [(0, 6), (1, 7), (2, 8), (3, 9), (4, 10)] [(6, 0), (31, 7), (32, 8), (33, 9), (34, 10)] (.tup (.pair relZ (.pair (.int .i64 E) .nul))) ([(6, bkI 31 32 33 34 b), (31, acsO b.A), (32, acsO b.O), (33, liO b.W), (34, boO b.R)]) 35 (d3) Tryd.func12 gK_ok subG.refl (by rfl) (by rfl) rfl rfl rfl rfl rfl (by rfl) rfl (by rfl) (by rfl) (by rfl) (by rfl) VW_ NI_ R_ (noFrL_ok NI_) BK_ ?_) | (refine Seq.callp false (e1) Tryd.func13 gK_ok subG.nil (by rfl) (by rfl) rfl rfl rfl rfl rfl (by rfl) rfl VW_ NI_ NI_ FR_ ?_) | (refine Seq.lit (by rfl) (by rfl) LT2_ ?_) | (refine VC.litT (by rfl) LTR_ ?_) | (refine VC.litF (by rfl) LFA_ ?_) | fail)
        exact ⟨i + 1, by omega, by omega, by
          rw [hB2, hb2]
          exact (Sim.less [(7, 31), (8, 32), (9, 33), (10, 34)] (by rfl) R_ R_)⟩
    · obtain rfl : i = 4 := by omega
      have cl := rlives_ok
      repeat' (first | (refine SS_ ?_) | (refine Seq.callp false (cl) Tryd.func15 gK_ok subG.nil (by rfl) (by rfl) rfl rfl rfl rfl rfl (by rfl) rfl VW_ NI_ NI_ FR_ ?_) | (refine VC.litF (by rfl) LFA_ ?_) | fail)
      (refine retC_mk ([(12, .bool true)]) ([]) 11 (Sim.less [] (by rfl) R_ R_) (retQ_ok (by rfl) ([]) (fun i av h => h) ⟨?_, ?_⟩)) <;> rfl
end Go.Proofs.YtdbebdjnpckfdaaDoor

namespace Go.Proofs.YtdbebdjnpckfdaaDoor
open Go.V Go.RowKit Go.U Go.L
theorem rep_tab {P : Program} {W : World} {name : String} {g n : Nat} {l : List UInt32} (h : Lib.TabIs P W name .u32 (l.map fun x => ((x.toNat : Nat) : Int))) (hg : P.globalNamed name = some g) (hl : l.length = n) (h0 : 0 < n) :
    Rep (ctxAt W) (.rptr false (u32A n l)) .V [.pointer (some ⟨g, 0, none⟩)] := by
  have hc : ∀ j u, (u32s l)[j]? = some u → W.cell? ⟨g, 0 + j, none⟩ = some u := fun j u hu => by
    rw [Nat.zero_add]
    have hj : j < l.length := by
      rcases Nat.lt_or_ge j l.length with h1 | h1
      · exact h1
      · rw [List.getElem?_eq_none (by simpa [u32s] using h1)] at hu; cases hu
    rw [h.cell hg j (by simpa using hj), ← hu]
    simp [u32s, hj]
  obtain ⟨x, hx⟩ : ∃ x, (u32s l)[0]? = some x := ⟨_, List.getElem?_eq_getElem (by simp [u32s]; omega)⟩
  have h1 := hc 0 x hx
  exact ⟨_, 0, u32s l, rfl, cell_lt (a := ⟨g, 0 + 0, none⟩) h1, (fun e => by cases e), hc, (rep_u32A hl).2 rfl⟩
end Go.Proofs.YtdbebdjnpckfdaaDoor
