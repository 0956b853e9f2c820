/- Budgets: what is used, Remove, Copy, New. Budgets: New. Budgets: a charge. Budgets: the plain law of an ask. -/
import Derived.Test.YtdbebdjnpckfdaaDoorRh
set_option linter.unusedSimpArgs false
set_option linter.unusedVariables false
namespace Go.Proofs.YtdbebdjnpckfdaaDoor
open Go.V Go.RowKit Go.L Go.Lx Go.Rt Go.Bg
set_option maxRecDepth 10000
set_option maxHeartbeats 4000000
theorem used_ok (l : List Acc) (hl : l.length ≤ 256) (i : Int) : Ok Tryd.prog 36 [] [(1, acsO l)] (.pair (.sl 1 [] 4 0 l.length) (.pair (.int .i64 i) .nul)) (fun v h' => v = .tup (.pair (ratA (usV l i)) (.pair (.int .i64 (usE l i)) .nul)) ∧ h' = [(1, acsO l)]) := by
  unfold usV usE
  by_cases h : i < 0 ∨ (l.length : Int) ≤ i
  · rw [if_pos h, if_pos h]
    by_cases h0 : i < 0
    · refine Ok.of_vcC tt_ok Tryd.func36 rfl rfl (by show 2 ≤ _; decide) 2 (hlt_ok (by rfl)) fun c0 => ?_
      repeat' (first | (refine SS_ ?_) | (refine Seq.lit (by rfl) (by rfl) LT2_ ?_) | (refine VC.litT (by rfl) LTR_ ?_) | fail)
      exact retC_mk [(4, .ptr 2 []), (5, .int .i64 6)] [(2, ratA rz), (1, acsO l)] 3 (Sim.less [] (by rfl) R_ R_) (retQ_ok (by rfl) [(1, acsO l)] (subL_ok ⟨rfl, trivial⟩) ⟨rfl, rfl⟩)
    · refine Ok.of_vcC tt_ok Tryd.func36 rfl rfl (by show 2 ≤ _; decide) 2 (hlt_ok (by rfl)) fun c0 => ?_
      repeat' (first | (refine SS_ ?_) | (refine Seq.lit (by rfl) (by rfl) LT2_ ?_) | (refine VC.litT (by rfl) LTR_ ?_) | fail)
      exact retC_mk [(4, .ptr 2 []), (5, .int .i64 6)] [(2, ratA rz), (1, acsO l)] 3 (Sim.less [] (by rfl) R_ R_) (retQ_ok (by rfl) [(1, acsO l)] (subL_ok ⟨rfl, trivial⟩) ⟨rfl, rfl⟩)
  · rw [if_neg h, if_neg h]
    have hx : l.getD (0 + i.toNat) accZ = l.getD i.toNat accZ := by rw [Nat.zero_add]
    refine Ok.of_vcC tt_ok Tryd.func36 rfl rfl (by show 2 ≤ _; decide) 2 (hlt_ok (by rfl)) fun c0 => ?_
    repeat' (first | (refine SS_ ?_) | (refine Seq.lit (by rfl) (by rfl) LT2_ ?_) | (refine VC.litF (by rfl) LFA_ ?_) | fail)
    rw [← hx]
    exact retC_mk [(4, .ptr 2 []), (5, .int .i64 0)] [(2, ratA (l.getD (0 + i.toNat) accZ).U), (1, acsO l)] 3 (Sim.less [] (by rfl) R_ R_) (retQ_ok (by rfl) [(1, acsO l)] (subL_ok ⟨rfl, trivial⟩) ⟨rfl, rfl⟩)
theorem spent_ok (b : Bk) (hb : BOk b) (i : Int) : Ok Tryd.prog 16 [] (bH b) (.pair (.ptr 0 []) (.pair (.int .i64 i) .nul)) (fun v h' => v = .tup (.pair (ratA (usV b.A i)) (.pair (.int .i64 (usE b.A i)) .nul)) ∧ h' = bH b) := by
  have c1 := used_ok b.A hb.na i
  generalize usV b.A i = V at *
  generalize usE b.A i = E at *
  refine Ok.of_vcC tt_ok Tryd.func16 rfl rfl (by show 2 ≤ _; decide) 5 (hlt_ok (by rfl)) fun c0 => ?_
  repeat' (first | (refine SS_ ?_) | (refine Seq.callo false [] [] (.tup (.pair (ratA V) (.pair (.int .i64 E) .nul))) ([(1, acsO b.A)]) 6 (c1) Tryd.func36 GOk.nil subG.nil (by rfl) (by rfl) rfl rfl rfl rfl rfl (by rfl) rfl (by rfl) (by rfl) (by rfl) (by rfl) VW_ NI_ R_ (noFrL_ok NI_) BK_ ?_) | (refine VC.litF (by rfl) LFA_ ?_) | fail)
  exact retC_mk [(4, .ptr 5 []), (5, .int .i64 E)] ((5, ratA V) :: bH b) 6 (Sim.less [] (by rfl) R_ R_) (retQ_ok (by rfl) (bH b) (subL_ok ⟨rfl, rfl, rfl, rfl, rfl, trivial⟩) ⟨rfl, rfl⟩)
theorem copy_ok (b : Bk) (hb : BOk b) : Ok Tryd.prog 11 [] (bH b) (.pair (.ptr 0 []) .nul) (fun v h' => v = .ptr 5 [] ∧ h' = (5, .pair (.sl 6 [] 4 0 b.A.length) (.pair (.sl 7 [] 4 0 b.O.length) (.pair (.sl 8 [] 1 0 b.W.length) (.pair (.sl 9 [] 1 0 b.R.length) .nul)))) :: (6, acsO b.A) :: (7, acsO b.O) :: (8, liO b.W) :: (9, boO b.R) :: bH b) := by
  have ha := hb.na
  have ho := hb.no
  have hw := hb.w.1
  have hr := hb.r
  have c1 := cloneA_ok b.A ha
  have c2 := cloneA_ok b.O (by omega)
  have c3 := cloneJ_ok b.W (by omega)
  have c4 := cloneB_ok b.R (by omega)
  refine Ok.of_vcC tt_ok Tryd.func11 rfl rfl (by show 1 ≤ _; decide) 5 (hlt_ok (by rfl)) fun c0 => ?_
  repeat' (first | (refine SS_ ?_) | (refine VC.drawn2 (id := 3) [(0, 0), (1, 1), (2, 3), (3, 7), (4, 15), (5, 0), (6, 32), (7, 96), (8, 224), (9, 511), (10, 0), (11, 1024), (12, 3072), (13, 7168), (14, 16383), (15, 0), (16, 32768), (17, 98304), (18, 229376), (19, 524287), (20, 1048575), (21, 2097151)] [22] (by rfl) (by kernel_rfl) (by rfl) (by rfl) ?_) | (refine DSeq.callr false [] [(5, 9)] (.sl 5 [] 4 0 b.A.length) ([(5, acsO b.A)]) ([(5, acsO b.A), (1, acsO b.A)]) 6 (c1) Tryd.func26 GOk.nil subG.nil (by rfl) (fastE (by rfl)) (fastH (by rfl)) (by rfl) (by rfl) rfl rfl rfl rfl rfl (by rfl) (by rfl) (by rfl) (by rfl) (by rfl) (by repeat (first | exact trivial | refine ⟨rfl, ?_⟩)) (by rfl) (by rfl) (by rfl) VW_ NI_ R_ (noFrL_ok NI_) BK_ ?_) | (refine DSeq.callr false [(1, 2)] [(6, 9), (2, 1)] (.sl 6 [] 4 0 b.O.length) ([(6, acsO b.O)]) ([(6, acsO b.O), (2, acsO b.O)]) 7 (c2) Tryd.func26 GOk.nil subG.nil (by rfl) (fastE (by rfl)) (fastH (by rfl)) (by rfl) (by rfl) rfl rfl rfl rfl rfl (by rfl) (by rfl) (by rfl) (by rfl) (by rfl) (by repeat (first | exact trivial | refine ⟨rfl, ?_⟩)) (by rfl) (by rfl) (by rfl) VW_ NI_ R_ (noFrL_ok NI_) BK_ ?_) | (refine DSeq.callr false [(1, 3)] [(7, 9), (3, 1)] (.sl 7 [] 1 0 b.W.length) ([(7, liO b.W)]) ([(7, liO b.W), (3, liO b.W)]) 8 (c3) Tryd.func25 GOk.nil subG.nil (by rfl) (fastE (by rfl)) (fastH (by rfl)) (by rfl) (by rfl) rfl rfl rfl rfl rfl (by rfl) (by rfl) (by rfl) (by rfl) (by rfl) (by repeat (first | exact trivial | refine ⟨rfl, ?_⟩)) (by rfl) (by rfl) (by rfl) VW_ NI_ R_ (noFrL_ok NI_) BK_ ?_) | (refine DSeq.callr false [(1, 4)] [(8, 9), (4, 1)] (.sl 8 [] 1 0 b.R.length) ([(8, boO b.R)]) ([(8, boO b.R), (4, boO b.R)]) 9 (c4) Tryd.func27 GOk.nil subG.nil (by rfl) (fastE (by rfl)) (fastH (by rfl)) (by rfl) (by rfl) rfl rfl rfl rfl rfl (by rfl) (by rfl) (by rfl) (by rfl) (by rfl) (by repeat (first | exact trivial | refine ⟨rfl, ?_⟩)) (by rfl) (by rfl) (by rfl) VW_ NI_ R_ (noFrL_ok NI_) BK_ ?_) | (refine VC.litF (by rfl) LFA_ ?_) | (refine DD_ ?_) | fail)
  exact retC_mk [(2, .ptr 5 [])] ((5, .pair (.sl 6 [] 4 0 b.A.length) (.pair (.sl 7 [] 4 0 b.O.length) (.pair (.sl 8 [] 1 0 b.W.length) (.pair (.sl 9 [] 1 0 b.R.length) .nul)))) :: (6, acsO b.A) :: (7, acsO b.O) :: (8, liO b.W) :: (9, boO b.R) :: bH b) 10 (Sim.less [(5, 9), (6, 5), (7, 6), (8, 7), (9, 8)] (by rfl) R_ R_) (retQ_ok (by rfl) ((5, .pair (.sl 6 [] 4 0 b.A.length) (.pair (.sl 7 [] 4 0 b.O.length) (.pair (.sl 8 [] 1 0 b.W.length) (.pair (.sl 9 [] 1 0 b.R.length) .nul)))) :: (6, acsO b.A) :: (7, acsO b.O) :: (8, liO b.W) :: (9, boO b.R) :: bH b) (fun i av h => h) ⟨rfl, rfl⟩)
end Go.Proofs.YtdbebdjnpckfdaaDoor

namespace Go.Proofs.YtdbebdjnpckfdaaDoor
open Go.V Go.RowKit Go.L Go.Lx Go.Rt Go.Bg
set_option maxRecDepth 10000
set_option maxHeartbeats 4000000
theorem rep_get (n i : Nat) : (List.replicate n false).getD i false = false := by
  rw [List.getD_eq_getElem?_getD, List.getElem?_replicate]
  split <;> rfl
theorem new_yes (P : List Rq) (W : List Int) (O : List Rq) (hrP : ∀ r ∈ P, R64 r) (hrO : ∀ r ∈ O, R64 r) (he : newE P W O = 0) :
    Ok Tryd.prog 10 [] [] (.pair (rlV P) (.pair (liV W) (.pair (rlV O) .nul))) (fun v h' => v = .tup (.pair (.ptr 0 []) (.pair (.int .i64 0) .nul)) ∧ h' = bH (newB P W O)) := by
  unfold newE at he
  by_cases h1 : 256 < P.length ∨ 16 < O.length
  · rw [if_pos h1] at he; cases he
  rw [if_neg h1] at he
  have hno : ¬ (W.length ≠ P.length ∨ (W.any fun x => decide (x < 0 ∨ (O.length : Int) ≤ x)) = true ∨ (P.any fun r => !isCost r) = true ∨ (O.any fun r => !isCost r) = true) := fun h => by rw [if_pos h] at he; cases he
  have g1 : W.length = P.length := Decidable.byContradiction fun h => hno (.inl h)
  have g2 : ¬ (W.any fun x => decide (x < 0 ∨ (O.length : Int) ≤ x)) = true := fun h => hno (.inr (.inl h))
  have g3 : ¬ (P.any fun r => !isCost r) = true := fun h => hno (.inr (.inr (.inl h)))
  have g4 : ¬ (O.any fun r => !isCost r) = true := fun h => hno (.inr (.inr (.inr h)))
  rw [Bool.not_eq_true] at g2 g3 g4
  have c2 := conW_ok O (by omega) W (by omega)
  have c3 := conR_ok P (by omega) hrP
  have c4 := conR_ok O (by omega) hrO
  rw [g2] at c2
  rw [g3] at c3
  rw [g4] at c4
  have k1 := accounts_ok P (by omega)
  have k2 := accounts_ok O (by omega)
  have k3 := cloneI_ok W (by omega)
  refine Ok.of_vcC tt_ok Tryd.func10 rfl rfl (by show 3 ≤ _; decide) 0 (hlt_ok (by rfl)) fun c0 => ?_
  repeat' (first | (refine SS_ ?_) | (refine VC.drawn2 (id := 6) [(0, 0), (1, 1), (2, 0), (3, 7), (4, 0), (5, 31), (6, 0), (7, 64), (8, 192), (9, 511), (10, 1023), (11, 2047)] [12] (by rfl) (by kernel_rfl) (by rfl) (by rfl) ?_) | (refine Seq.callo false [] [] (.bool false) ([(0, rlV O)]) 1 (c2) Tryd.func21 GOk.nil subG.nil (by rfl) (by rfl) rfl rfl rfl rfl rfl (by rfl) rfl (by rfl) (by rfl) (by rfl) (by rfl) VW_ NI_ R_ (noFrL_ok NI_) BK_ ?_) | (refine Seq.callp false (c3) Tryd.func23 GOk.nil subG.nil (by rfl) (by rfl) rfl rfl rfl rfl rfl (by rfl) rfl VW_ NI_ NI_ FR_ ?_) | (refine Seq.callp false (c4) Tryd.func23 GOk.nil subG.nil (by rfl) (by rfl) rfl rfl rfl rfl rfl (by rfl) rfl VW_ NI_ NI_ FR_ ?_) | (refine DSeq.callr false [] [(1, 0)] (.sl 1 [] 4 0 P.length) ([(1, acsO (accs P))]) ([(1, acsO (accs P))]) 2 (k1) Tryd.func24 GOk.nil subG.nil (by rfl) (fastE (by rfl)) (fastH (by rfl)) (by rfl) (by rfl) rfl rfl rfl rfl rfl (by rfl) (by rfl) (by rfl) (by rfl) (by rfl) (by repeat (first | exact trivial | refine ⟨rfl, ?_⟩)) (by rfl) (by rfl) (by rfl) VW_ NI_ R_ (noFrL_ok NI_) BK_ ?_) | (refine DSeq.callr false [] [(2, 0)] (.sl 2 [] 4 0 O.length) ([(2, acsO (accs O))]) ([(2, acsO (accs O))]) 3 (k2) Tryd.func24 GOk.nil subG.nil (by rfl) (fastE (by rfl)) (fastH (by rfl)) (by rfl) (by rfl) rfl rfl rfl rfl rfl (by rfl) (by rfl) (by rfl) (by rfl) (by rfl) (by repeat (first | exact trivial | refine ⟨rfl, ?_⟩)) (by rfl) (by rfl) (by rfl) VW_ NI_ R_ (noFrL_ok NI_) BK_ ?_) | (refine DSeq.callr false [] [(3, 0)] (.sl 3 [] 1 0 W.length) ([(3, liO W)]) ([(3, liO W)]) 4 (k3) Tryd.func25 GOk.nil subG.nil (by rfl) (fastE (by rfl)) (fastH (by rfl)) (by rfl) (by rfl) rfl rfl rfl rfl rfl (by rfl) (by rfl) (by rfl) (by rfl) (by rfl) (by repeat (first | exact trivial | refine ⟨rfl, ?_⟩)) (by rfl) (by rfl) (by rfl) VW_ NI_ R_ (noFrL_ok NI_) BK_ ?_) | (refine Seq.lit (by rfl) (by rfl) LT2_ ?_) | (refine VC.litF (by rfl) LFA_ ?_) | (refine DD_ ?_) | fail)
  have e1 : bH (newB P W O) = [(0, bkA P.length O.length W.length P.length), (1, .arr P.length 4 (fun i => accA ((accs P).getD i accZ))), (2, .arr O.length 4 (fun i => accA ((accs O).getD i accZ))), (3, liO W), (4, .arr P.length 1 (fun i => .bool ((List.replicate P.length false).getD i false)))] := by
    show [(0, bkA (accs P).length (accs O).length W.length (List.replicate P.length false).length), (1, .arr (accs P).length 4 (fun i => accA ((accs P).getD i accZ))), (2, .arr (accs O).length 4 (fun i => accA ((accs O).getD i accZ))), (3, liO W), (4, .arr (List.replicate P.length false).length 1 (fun i => .bool ((List.replicate P.length false).getD i false)))] = _
    rw [accs_len, accs_len, List.length_replicate]
  rw [e1]
  refine retC_mk [(6, .ptr 0 []), (7, .int .i64 0)] [(0, bkA P.length O.length W.length P.length), (1, .arr P.length 4 (fun i => accA ((accs P).getD i accZ))), (2, .arr O.length 4 (fun i => accA ((accs O).getD i accZ))), (3, liO W), (4, .arr P.length 1 (fun i => .bool ((List.replicate P.length false).getD i false)))] 6 ?_ (retQ_ok (by rfl) [(0, bkA P.length O.length W.length P.length), (1, .arr P.length 4 (fun i => accA ((accs P).getD i accZ))), (2, .arr O.length 4 (fun i => accA ((accs O).getD i accZ))), (3, liO W), (4, .arr P.length 1 (fun i => .bool ((List.replicate P.length false).getD i false)))] (fun i av h => h) ⟨rfl, rfl⟩)
  (refine Sim.less [(0, 5)] (by rfl) ?_ ?_ <;> (repeat' (first | (exact EnvLe.nil) | (exact HeapLe.nil) | (with_reducible apply EnvLe.cons) | (with_reducible apply HeapLe.cons) | ((with_reducible refine RelA.int ?_; first | (refine Keep.mk ?_; first | with_reducible rfl | omega | decide) | skip)) | (exact rfl) | (exact ⟨rfl, rfl⟩) | ((with_reducible refine RelA.arr ?_; intro i hi)) | ((refine RelA.arr ?_; intro i hi)) | (refine RelA.pair ?_ ?_) | fail)) <;> (try with_reducible refine Keep.mk ?_))
  · show RelA _ _ _ (.arr (accs P).length 4 _)
    rw [accs_len]; exact NoId.self NI_
  · show RelA _ _ _ (.arr (accs O).length 4 _)
    rw [accs_len]; exact NoId.self NI_
  · rw [rep_get]; exact rfl
end Go.Proofs.YtdbebdjnpckfdaaDoor

namespace Go.Proofs.YtdbebdjnpckfdaaDoor
open Go.V Go.RowKit Go.L Go.Lx Go.Rt Go.Bg
set_option maxRecDepth 10000
set_option maxHeartbeats 4000000
abbrev chH (A : List Acc) (ov : Bool) : Asc := [(1, acsO A), (5, .bool ov)]
theorem PanTo.drawn {F : Fr} {ops : Array Oper} {o : Oper} {Q : Exit → St → Prop} {m : Nat} {its : List It} {e0 e' h g : Asc} {N : Nat} (hE : selEO (tbb m) e0 its some = some e') (hp : PanTo F ops o ⟨e', h, g, N⟩ Q) : PanTo F ops o ⟨selE (tbb m) its ++ e0, h, g, N⟩ Q := by
  rw [selEO_eq] at hE; cases hE; exact hp
theorem rel_set0 {A : Nat → Prop} {σ : Nat → Nat} {α : Type} {G : α → AV} {d : α} (hG : ∀ e, NoId (G e)) {o o2 : List α} {x : α} {k i : Nat} {u : AV} (hk : k < o.length) (he : o2 = o.set k x) (hu : u = G x) : RelA A σ (G (o2.getD i d)) (bif Nat.beq i k then u else G (o.getD i d)) := by
  subst he
  by_cases h : i = k
  · rw [bif_eq h, h, set_get hk, hu]; exact NoId.self (hG _)
  · rw [bif_ne h, set_ne h]; exact NoId.self (hG _)
theorem ch_ok (A : List Acc) (k : Nat) (hk : k < A.length) (hA : A.length ≤ 256) (ha : AOk (A.getD k accZ)) (c : Rq) (hc : isCost c = true) (ov : Bool) (h0 : acE (A.getD k accZ) c = 0) :
    Ok Tryd.prog 44 [] (chH A ov) (.pair (.ptr 1 [.idx k 4]) (.pair (ratA c) (.pair (.ptr 5 []) .nul))) (fun v h' => v = .tup .nul ∧ h' = chH (A.set k (acV (A.getD k accZ) c)) (ov || acO (A.getD k accZ) c)) := by
  have hcc := cost_iff.1 hc
  have hs := add_cost ha.u hcc h0
  have c1 := qadd_ok (A.getD k accZ).U c (valid_r64 ha.u.1) (valid_r64 hcc.1)
  have c2 := must_ok (addV (A.getD k accZ).U c)
  have c3 := cmp_ok (addV (A.getD k accZ).U c) (A.getD k accZ).L (valid_r64 hs.1) (valid_r64 ha.l.1) hs.1 ha.l.1
  unfold acE at h0
  unfold acV acO
  rw [h0] at c1
  generalize addV (A.getD k accZ).U c = V at *
  generalize cmpR V (A.getD k accZ).L = q at *
  have hlen : (A.set k ⟨(A.getD k accZ).L, V⟩).length = A.length := List.length_set
  have hget : (A.set k ⟨(A.getD k accZ).L, V⟩).getD k accZ = ⟨(A.getD k accZ).L, V⟩ := set_get hk
  generalize hB : A.set k ⟨(A.getD k accZ).L, V⟩ = B at *
  have hres : chH B (ov || decide (0 < q)) = [(1, .arr A.length 4 (fun i => accA (B.getD i accZ))), (5, .bool (ov || decide (0 < q)))] := by
    show [(1, AV.arr B.length 4 (fun i => accA (B.getD i accZ))), (5, .bool (ov || decide (0 < q)))] = _
    rw [hlen]
  rw [hres]
  have c3 : Ok Tryd.prog 17 [] [] (.pair (ratA (B.getD k accZ).U) (.pair (ratA (B.getD k accZ).L) .nul)) (fun v h' => v = .int .i64 q ∧ h' = []) := by rw [hget]; exact c3
  refine Ok.of_vcC tt_ok Tryd.func44 rfl rfl (by show 3 ≤ _; decide) 6 (hlt_ok (by rfl)) fun c0 => ?_
  repeat' (first | (refine SS_ ?_) | (refine VC.drawm (id := 1) [(0, 0), (1, 0), (2, 2), (3, 6), (4, 14), (5, 0), (6, 62), (7, 126), (8, 126), (9, 510), (10, 1023), (11, 2047)] [12] (by rfl) (by kernel_rfl) (by rfl) ?_) | (refine DSeq.callp false (c1) Tryd.func46 GOk.nil subG.nil (by rfl) (fastE (by rfl)) (fastH (by rfl)) (by rfl) (by rfl) rfl rfl rfl rfl rfl (by rfl) (by rfl) VW_ NI_ NI_ FR_ ?_) | (refine DSeq.callp false (c2) Tryd.func45 GOk.nil subG.nil (by rfl) (fastE (by rfl)) (fastH (by rfl)) (by rfl) (by rfl) rfl rfl rfl rfl rfl (by rfl) (by rfl) VW_ NI_ NI_ FR_ ?_) | (refine DD_ ?_) | fail)
  refine VC.conv (s' := ⟨[(0, .ptr 1 [.idx k 4]), (2, .ptr 5 [])], [(1, .arr A.length 4 (fun i => accA (B.getD i accZ))), (5, .bool ov)], [], 7⟩) (by
    (refine Sim.less [] (by rfl) ?_ ?_ <;> (repeat' (first | (exact EnvLe.nil) | (exact HeapLe.nil) | (with_reducible apply EnvLe.cons) | (with_reducible apply HeapLe.cons) | (exact rfl) | (exact ⟨rfl, rfl⟩) | ((with_reducible refine RelA.arr ?_; intro i hi)) | fail)) <;> (try with_reducible refine Keep.mk ?_))
    exact rel_set0 (G := accA) (fun e => NI_) hk hB.symm rfl) ?_
  clear hget hB
  cases ov with
  | true =>
    repeat' (first | (refine SS_ ?_) | (refine VC.drawm (id := 2) [(0, 0), (1, 1), (2, 3), (3, 7), (4, 15), (5, 31), (6, 3), (7, 67), (8, 195), (9, 451), (10, 1023), (11, 2047), (12, 4095)] [13] (by rfl) (by kernel_rfl) (by rfl) ?_) | (refine DD_ ?_) | fail)
    (refine retC_mk ([]) ([(1, .arr A.length 4 (fun i => accA (B.getD i accZ))), (5, .bool true)]) 7 (Sim.less [] (by rfl) R_ R_) (retQ_ok (by rfl) ([(1, .arr A.length 4 (fun i => accA (B.getD i accZ))), (5, .bool true)]) (fun i av h => h) ⟨?_, ?_⟩)) <;> rfl
  | false =>
    repeat' (first | (refine SS_ ?_) | (refine VC.drawm (id := 2) [(0, 0), (1, 1), (2, 3), (3, 7), (4, 15), (5, 31), (6, 3), (7, 67), (8, 195), (9, 451), (10, 1023), (11, 2047), (12, 4095)] [13] (by rfl) (by kernel_rfl) (by rfl) ?_) | (refine DSeq.callp false (c3) Tryd.func17 GOk.nil subG.nil (by rfl) (fastE (by rfl)) (fastH (by rfl)) (by rfl) (by rfl) rfl rfl rfl rfl rfl (by rfl) (by rfl) VW_ NI_ NI_ FR_ ?_) | (refine DD_ ?_) | fail)
    (refine retC_mk ([]) ([(1, .arr A.length 4 (fun i => accA (B.getD i accZ))), (5, .bool (decide (0 < q)))]) 7 (Sim.less [] (by rfl) R_ R_) (retQ_ok (by rfl) ([(1, .arr A.length 4 (fun i => accA (B.getD i accZ))), (5, .bool (decide (0 < q)))]) (fun i av h => h) ⟨?_, ?_⟩)) <;> rfl
theorem ch_pan (A : List Acc) (k : Nat) (hk : k < A.length) (hA : A.length ≤ 256) (ha : AOk (A.getD k accZ)) (c : Rq) (hc : isCost c = true) (ov : Bool) (e : Int) (he : acE (A.getD k accZ) c = e) (h0 : e ≠ 0) :
    OkP Tryd.prog 44 [] (chH A ov) (.pair (.ptr 1 [.idx k 4]) (.pair (ratA c) (.pair (.ptr 5 []) .nul))) (errV e) (chH A ov) := by
  have hcc := cost_iff.1 hc
  have c1 := qadd_ok (A.getD k accZ).U c (valid_r64 ha.u.1) (valid_r64 hcc.1)
  have c2 := must_pan (addV (A.getD k accZ).U c) e h0
  unfold acE at he
  rw [he] at c1
  generalize addV (A.getD k accZ).U c = V at *
  refine OkP.of_vc Tryd.func44 rfl rfl (by show 3 ≤ _; decide) 6 (hlt_ok (by rfl)) fun c0 => ?_
  repeat' (first | (refine SS_ ?_) | (refine VC.drawX (id := 1) [(0, 0), (1, 0), (2, 2), (3, 6), (4, 14), (5, 0), (6, 62), (7, 126), (8, 126)] 9 510 [10, 11, 12] (by rfl) (by kernel_rfl) (by rfl) (by rfl) ?_) | (refine DSeq.callp false (c1) Tryd.func46 GOk.nil subG.nil (by rfl) (fastE (by rfl)) (fastH (by rfl)) (by rfl) (by rfl) rfl rfl rfl rfl rfl (by rfl) (by rfl) VW_ NI_ NI_ FR_ ?_) | (refine DD_ ?_) | fail)
  refine DSeq.nil ?_
  refine ⟨rfl, PanTo.drawn (by rfl) ?_⟩
  refine call_pan false [] [] ([]) 7 (c2) Tryd.func45 GOk.nil subG.nil (by rfl) (by rfl) rfl rfl rfl rfl rfl (by rfl) (by rfl) (by rfl) VW_ NI_ R_ (noFrL_ok NI_) BK_ ?_
  exact panQ_mk [] (chH A ov) 6 (Sim.less [] (by rfl) R_ R_) (fun i av h => h)
theorem ch_ok' (A : List Acc) (n k : Nat) (hn : A.length = n) (hk : k < n) (hA : n ≤ 256) (ha : AOk (A.getD k accZ)) (c : Rq) (hc : isCost c = true) (ov : Bool) (h0 : acE (A.getD k accZ) c = 0) (B : List Acc) (o : Bool) (hB : A.set k (acV (A.getD k accZ) c) = B) (ho : (ov || acO (A.getD k accZ) c) = o) :
    Ok Tryd.prog 44 [] [(1, .arr n 4 (fun i => accA (A.getD i accZ))), (5, .bool ov)] (.pair (.ptr 1 [.idx k 4]) (.pair (ratA c) (.pair (.ptr 5 []) .nul))) (fun v h' => v = .tup .nul ∧ h' = [(1, .arr n 4 (fun i => accA (B.getD i accZ))), (5, .bool o)]) := by
  subst hn hB ho
  have h := ch_ok A k hk hA ha c hc ov h0
  rw [show chH (A.set k (acV (A.getD k accZ) c)) (ov || acO (A.getD k accZ) c) = [(1, .arr A.length 4 (fun i => accA ((A.set k (acV (A.getD k accZ) c)).getD i accZ))), (5, .bool (ov || acO (A.getD k accZ) c))] by
    show [(1, AV.arr (A.set k (acV (A.getD k accZ) c)).length 4 _), _] = _
    rw [List.length_set]] at h
  exact h
theorem ch_pan' (A : List Acc) (n k : Nat) (hn : A.length = n) (hk : k < n) (hA : n ≤ 256) (ha : AOk (A.getD k accZ)) (c : Rq) (hc : isCost c = true) (ov : Bool) (e : Int) (he : acE (A.getD k accZ) c = e) (h0 : e ≠ 0) :
    OkP Tryd.prog 44 [] [(1, .arr n 4 (fun i => accA (A.getD i accZ))), (5, .bool ov)] (.pair (.ptr 1 [.idx k 4]) (.pair (ratA c) (.pair (.ptr 5 []) .nul))) (errV e) [(1, .arr n 4 (fun i => accA (A.getD i accZ))), (5, .bool ov)] := by
  subst hn
  exact ch_pan A k hk hA ha c hc ov e he h0
end Go.Proofs.YtdbebdjnpckfdaaDoor

namespace Go.Bg
open Go.Rt Go.Lx
theorem kn_zero {b : Bk} {bf : List Int} {p : Int} (h : kn b bf p = 0) : 0 ≤ p ∧ p < b.A.length := by
  unfold kn at h
  by_cases h1 : p < 0 ∨ (b.A.length : Int) ≤ p
  · rw [if_pos h1] at h; cases h
  · omega
theorem knL_all {b : Bk} {l : List Int} : ∀ {n k : Nat}, knL b l k n = 0 → ∀ j, k ≤ j → j < k + n → kn b (l.take j) (l.getD j 0) = 0
  | 0, k, _, j, h1, h2 => by omega
  | n + 1, k, h, j, h1, h2 => by
    unfold knL at h
    by_cases hk : kn b (l.take k) (l.getD k 0) ≠ 0
    · rw [if_pos hk] at h; exact absurd h hk
    · rw [if_neg hk] at h
      by_cases e : j = k
      · subst e; exact Decidable.byContradiction hk
      · exact knL_all h j (by omega) (by omega)
theorem acV_ok {a : Acc} {c : Rq} (ha : AOk a) (hc : isCost c = true) (h : acE a c = 0) : AOk (acV a c) := ⟨ha.l, add_cost ha.u (cost_iff.1 hc) h⟩
theorem set_ok {A : List Acc} {i : Nat} {v : Acc} (h : ∀ x ∈ A, AOk x) (hv : AOk v) : ∀ x ∈ A.set i v, AOk x := fun x hx => by
  rcases List.mem_or_eq_of_mem_set hx with h1 | h1
  · exact h x h1
  · rw [h1]; exact hv
theorem get_ok {A : List Acc} {i : Nat} (h : ∀ x ∈ A, AOk x) (hi : i < A.length) : AOk (A.getD i accZ) := h _ (getD_mem hi)
theorem chg_step {A : List Acc} {ov : Bool} {c : Rq} {l : List Int} {k : Nat} (hk : k < l.length) : chg A ov c (l.drop k) = (if acE (A.getD (l.getD k 0).toNat accZ) c ≠ 0 then ⟨acE (A.getD (l.getD k 0).toNat accZ) c, A, ov⟩ else chg (A.set (l.getD k 0).toNat (acV (A.getD (l.getD k 0).toNat accZ) c)) (ov || acO (A.getD (l.getD k 0).toNat accZ) c) c (l.drop (k + 1))) := by
  rw [drop_step (d := 0) hk]; rfl
/-- The persons' accounts after so many of them were charged. -/
def chK (b : Bk) (l : List Int) (c : Rq) : Nat → List Acc × Bool
  | 0 => (b.A, false)
  | k + 1 => ((chK b l c k).1.set (l.getD k 0).toNat (acV ((chK b l c k).1.getD (l.getD k 0).toNat accZ) c), (chK b l c k).2 || acO ((chK b l c k).1.getD (l.getD k 0).toNat accZ) c)
theorem cnt_step {W l : List Int} {k : Nat} (hk : k < l.length) (o : Nat) : cnt W (l.take (k + 1)) o = cnt W (l.take k) o + if W.getD (l.getD k 0).toNat 0 = (o : Int) then 1 else 0 := by
  unfold cnt
  rw [take_snoc (d := 0) hk, List.filter_append, List.length_append]
  congr 1
  by_cases h : W.getD (l.getD k 0).toNat 0 = (o : Int)
  · rw [if_pos h, List.filter_cons_of_pos (by simpa using h)]; rfl
  · rw [if_neg h, List.filter_cons_of_neg (by simpa using h)]; rfl
/-- The owners' accounts before an owner is charged. -/
def chOK (b : Bk) (l : List Int) (c : Rq) (ov0 : Bool) : Nat → List Acc × Bool
  | 0 => (b.O, ov0)
  | o + 1 => if cnt b.W l o = 0 then chOK b l c ov0 o else ((chOK b l c ov0 o).1.set o (acV ((chOK b l c ov0 o).1.getD o accZ) (shr c (cnt b.W l o) l.length)), (chOK b l c ov0 o).2 || acO ((chOK b l c ov0 o).1.getD o accZ) (shr c (cnt b.W l o) l.length))
theorem shr_cost {c : Rq} {k n : Nat} (hc : isCost c = true) (h1 : 0 < k) (h2 : k ≤ n) (h3 : n ≤ 256) (h : shrE c k n = 0) : isCost (shr c k n) = true :=
  cost_iff.2 (mul_cost (cost_iff.1 hc) (mk_small h1 h2 h3).2 h)
theorem ask_bad {b : Bk} {l : List Int} {c : Rq} (h : l = [] ∨ isCost c = false) : askE b l c = 1 := if_pos h
theorem ask_kn {b : Bk} {l : List Int} {c : Rq} (h : ¬ (l = [] ∨ isCost c = false)) (hk : knE b l ≠ 0) : askE b l c = knE b l := by
  unfold askE; rw [if_neg h, if_pos hk]
theorem ask_P {b : Bk} {l : List Int} {c : Rq} (h : ¬ (l = [] ∨ isCost c = false)) (hk : knE b l = 0) (hp : (askP b l c).e ≠ 0) : askE b l c = (askP b l c).e := by
  unfold askE; rw [if_neg h, if_neg (fun x => x hk), if_pos hp]
theorem ask_O {b : Bk} {l : List Int} {c : Rq} (h : ¬ (l = [] ∨ isCost c = false)) (hk : knE b l = 0) (hp : (askP b l c).e = 0) (ho : (askO b l c).e ≠ 0) : askE b l c = (askO b l c).e := by
  unfold askE; rw [if_neg h, if_neg (fun x => x hk), if_neg (fun x => x hp), if_pos ho]
theorem ask_end {b : Bk} {l : List Int} {c : Rq} (h : ¬ (l = [] ∨ isCost c = false)) (hk : knE b l = 0) (hp : (askP b l c).e = 0) (ho : (askO b l c).e = 0) : askE b l c = if (askO b l c).ov = true then 22 else 0 := by
  unfold askE; rw [if_neg h, if_neg (fun x => x hk), if_neg (fun x => x hp), if_neg (fun x => x ho)]
end Go.Bg
