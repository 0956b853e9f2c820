/- Flow: changed. -/
import Derived.Test.YtkpidpmlehkjbaaZk
import Derived.Test.YtkpidpmlehkjbaaZd
import Derived.Test.YtkpidpmlehkjbaaFz
set_option linter.unusedSimpArgs false
set_option linter.unusedVariables false
namespace Go.Fl
open Go.Lx
/-- Numbers with one changed, left out or added. -/
def chgL (l : List Int) (a h b : Int) : List Int :=
  if l = [] then [b] else
  if aroundI h 4 = 0 then l ++ [b]
  else if aroundI h 4 = 1 then l.take (aroundI a l.length).toNat ++ l.drop ((aroundI a l.length).toNat + 1)
  else if aroundI h 4 = 2 then l.set (aroundI a l.length).toNat b
  else l.set (aroundI a l.length).toNat (IntKind.i64.wrap (IntKind.i64.wrap (l.getD (aroundI a l.length).toNat 0 + aroundI b 3) - 1))
theorem chg_len (l : List Int) (a h b : Int) : (chgL l a h b).length ≤ l.length + 1 := by
  unfold chgL
  split
  · show 1 ≤ _; omega
  · split
    · rw [List.length_append]; exact Nat.le_refl _
    · split
      · rw [List.length_append, List.length_take, List.length_drop]; omega
      · split <;> rw [List.length_set] <;> omega
theorem cut_getD {l : List Int} {k i : Nat} (hk : k < l.length) : (l.take k ++ l.drop (k + 1)).getD i 0 = if i < k then l.getD i 0 else l.getD (i + 1) 0 := by
  have hl : (l.take k).length = k := by rw [List.length_take]; omega
  rw [List.getD_eq_getElem?_getD, List.getD_eq_getElem?_getD, List.getD_eq_getElem?_getD]
  split
  · rename_i h
    rw [List.getElem?_append_left (by omega), List.getElem?_take, if_pos h]
  · rename_i h
    rw [List.getElem?_append_right (by omega), List.getElem?_drop, hl, show k + 1 + (i - k) = i + 1 by omega]
end Go.Fl
namespace Go.Proofs.Ytkpidpmlehkjbaa
open Go.V Go.RowKit Go.L Go.Lx Go.Fl
set_option maxRecDepth 10000
set_option maxHeartbeats 4000000
theorem changed_ok (l : List Int) (hl : l.length ≤ 1048576) (a : Int) (h1 : I64 a) (h : Int) (h2 : I64 h) (b : Int) (h3 : I64 b) : Ok Try.prog 17 [] [] (.pair (liV l) (.pair (.int .i64 a) (.pair (.int .i64 h) (.pair (.int .i64 b) .nul)))) (fun r h' => r = lsV (chgL l a h b) ∧ h' = []) := by
  by_cases hl0 : l.length = 0
  · have hc : chgL l a h b = [b] := by rw [chgL, if_pos (List.length_eq_zero_iff.1 hl0)]
    rw [hc]
    refine Ok.still (R := fun r h' => r = .sl 2 [] 1 0 (l.length + 1) ∧ h' = [(2, .arr (l.length + 1) 1 (fun i => .int .i64 (([b] : List Int).getD i 0)))]) ?_ ?_
    · refine Ok.of_vcC tt_ok Try.func17 rfl rfl (by show 4 ≤ _; decide) 0 (hlt_ok (by rfl)) fun c0 => ?_
      repeat' (first | (refine SS_ ?_) | (refine VC.litT (by rfl) LTR_ ?_) | fail)
      refine retC_mk ([(8, .sl 2 [] 1 0 (l.length + 1))]) ([(2, .arr (l.length + 1) 1 (fun i => .int .i64 (([b] : List Int).getD i 0)))]) 3 ?_ (retQ_ok (by rfl) ([(2, .arr (l.length + 1) 1 (fun i => .int .i64 (([b] : List Int).getD i 0)))]) (fun i av h => h) ⟨?_, ?_⟩)
      · (refine Sim.less [] (by rfl) ?_ ?_ <;> (repeat' (first | (exact EnvLe.nil) | (exact HeapLe.nil) | (with_reducible apply EnvLe.cons) | (with_reducible apply HeapLe.cons) | (exact rfl) | (exact ⟨rfl, rfl⟩) | ((refine RelA.arr ?_; intro i hi)) | fail)) <;> (try with_reducible refine Keep.mk ?_))
        have hi0 : i = 0 := by omega
        subst hi0
        rw [joinF_ge (by omega), show 0 - l.length = 0 by omega]
        exact NoId.self (a := .int .i64 b) NI_
      · rfl
      · rfl
    · rintro r h' ⟨rfl, rfl⟩
      exact ⟨_, viewT_li (l := [b]) (by rfl) (by show 1 = l.length + 1; omega) fun i _ => rfl, rfl, rfl⟩
  · have hne : l ≠ [] := fun e => hl0 (by rw [e]; rfl)
    have d1 := around_lt a l.length (by omega)
    have d2 := around_lt h 4 (by omega)
    have c1 := lAround_ok a l.length h1
    have c2 := lAround_ok h 4 h2
    have c3 := lAround_ok b 3 h3
    rw [chgL, if_neg hne]
    generalize aroundI a l.length = k at *
    generalize aroundI h 4 = m at *
    generalize aroundI b 3 = q at *
    rcases (by omega : m = 0 ∨ m = 1 ∨ m = 2 ∨ m = 3) with rfl | rfl | rfl | rfl
    · rw [if_pos rfl]
      obtain ⟨L, hL⟩ : ∃ L : List Int, L = l ++ [b] := ⟨_, rfl⟩
      have hLl : L.length = (l.length + 1) := by rw [hL, List.length_append]; rfl
      rw [← hL]
      refine Ok.still (R := fun r h' => r = .sl 2 [] 1 0 (l.length + 1) ∧ h' = [(2, .arr (l.length + 1) 1 (fun i => .int .i64 (L.getD i 0)))]) ?_ ?_
      · refine Ok.of_vcC tt_ok Try.func17 rfl rfl (by show 4 ≤ _; decide) 0 (hlt_ok (by rfl)) fun c0 => ?_
        repeat' (first | (refine SS_ ?_) | (refine Seq.callp false (c1) Try.func12 GOk.nil subG.nil (by rfl) (by rfl) rfl rfl rfl rfl rfl (by rfl) rfl VW_ NI_ NI_ FR_ ?_) | (refine Seq.callp false (c2) Try.func12 GOk.nil subG.nil (by rfl) (by rfl) rfl rfl rfl rfl rfl (by rfl) rfl VW_ NI_ NI_ FR_ ?_) | (refine VC.litT (by rfl) LTR_ ?_) | (refine VC.litF (by rfl) LFA_ ?_) | fail)
        refine retC_mk ([(8, .sl 2 [] 1 0 (l.length + 1))]) ([(2, .arr (l.length + 1) 1 (fun i => .int .i64 (L.getD i 0)))]) 3 ?_ (retQ_ok (by rfl) ([(2, .arr (l.length + 1) 1 (fun i => .int .i64 (L.getD i 0)))]) (fun i av h => h) ⟨?_, ?_⟩)
        · (refine Sim.less [] (by rfl) ?_ ?_ <;> (repeat' (first | (exact EnvLe.nil) | (exact HeapLe.nil) | (with_reducible apply EnvLe.cons) | (with_reducible apply HeapLe.cons) | (exact rfl) | (exact ⟨rfl, rfl⟩) | ((refine RelA.arr ?_; intro i hi)) | fail)) <;> (try with_reducible refine Keep.mk ?_))
          rw [hL]
          exact rel_snocG (G := fun x : Int => AV.int .i64 x) (fun e => NI_) (by assumption) (by rfl)
        · rfl
        · rfl
      · rintro r h' ⟨rfl, rfl⟩
        exact ⟨_, viewT_li (by rfl) hLl fun i _ => rfl, rfl, rfl⟩
    · rw [if_neg (by decide), if_pos rfl]
      obtain ⟨L, hL⟩ : ∃ L : List Int, L = l.take k.toNat ++ l.drop (k.toNat + 1) := ⟨_, rfl⟩
      have hLl : L.length = (k.toNat - 0 + (l.length - (k + 1).toNat)) := by rw [hL, List.length_append, List.length_take, List.length_drop]; omega
      rw [← hL]
      refine Ok.still (R := fun r h' => r = .sl 1 [] 1 0 (k.toNat - 0 + (l.length - (k + 1).toNat)) ∧ h' = [(1, .arr (k.toNat - 0 + (l.length - (k + 1).toNat)) 1 (fun i => .int .i64 (L.getD i 0)))]) ?_ ?_
      · refine Ok.of_vcC tt_ok Try.func17 rfl rfl (by show 4 ≤ _; decide) 0 (hlt_ok (by rfl)) fun c0 => ?_
        repeat' (first | (refine SS_ ?_) | (refine Seq.callp false (c1) Try.func12 GOk.nil subG.nil (by rfl) (by rfl) rfl rfl rfl rfl rfl (by rfl) rfl VW_ NI_ NI_ FR_ ?_) | (refine Seq.callp false (c2) Try.func12 GOk.nil subG.nil (by rfl) (by rfl) rfl rfl rfl rfl rfl (by rfl) rfl VW_ NI_ NI_ FR_ ?_) | (refine VC.drawm (id := 10) [(0, 0), (1, 0), (2, 3), (3, 0), (4, 0), (5, 16), (6, 56)] [7, 8] (by rfl) (by kernel_rfl) (by rfl) ?_) | (refine Seq.over (append_over_ok tt_ok (by rfl) (by rfl) (by rfl) (by rfl) (by rfl) (by omega) (by rfl) (by rfl) (by (first | exact trivial | exact u8_in _ rfl | exact u32_in _ rfl | ((with_reducible refine AllP.guard ?_); simp only [AllP, inI, fitV, maxK, inK, inbL, inb, List.append, List.cons_append, List.nil_append, true_and, and_true]; first | done | omega))) (by rfl) (.inl rfl) (by omega) (by show _ * 8 ≤ _; omega)) (by rfl) (by rfl) ?_) | (refine VC.litT (by rfl) LTR_ ?_) | (refine VC.litF (by rfl) LFA_ ?_) | (refine DD_ ?_) | fail)
        refine retC_mk ([(8, .sl 1 [] 1 0 (k.toNat - 0 + (l.length - (k + 1).toNat)))]) ([(1, .arr (k.toNat - 0 + (l.length - (k + 1).toNat)) 1 (fun i => .int .i64 (L.getD i 0)))]) 2 ?_ (retQ_ok (by rfl) ([(1, .arr (k.toNat - 0 + (l.length - (k + 1).toNat)) 1 (fun i => .int .i64 (L.getD i 0)))]) (fun i av h => h) ⟨?_, ?_⟩)
        · (refine Sim.less [] (by rfl) ?_ ?_ <;> (repeat' (first | (exact EnvLe.nil) | (exact HeapLe.nil) | (with_reducible apply EnvLe.cons) | (with_reducible apply HeapLe.cons) | (exact rfl) | (exact ⟨rfl, rfl⟩) | ((refine RelA.arr ?_; intro i hi)) | fail)) <;> (try with_reducible refine Keep.mk ?_))
          rw [hL, cut_getD (by omega)]
          by_cases hik : i < k.toNat
          · rw [if_pos hik, joinF_lt (by omega)]
            exact NoId.self (a := .int .i64 (l.getD i 0)) NI_
          · rw [if_neg hik, joinF_ge (by omega), show i + 1 = 0 + (k + 1).toNat + (i - (k.toNat - 0)) by omega]
            exact NoId.self (a := .int .i64 (l.getD (0 + (k + 1).toNat + (i - (k.toNat - 0))) 0)) NI_
        · rfl
        · rfl
      · rintro r h' ⟨rfl, rfl⟩
        exact ⟨_, viewT_li (by rfl) hLl fun i _ => rfl, rfl, rfl⟩
    · rw [if_neg (by decide), if_neg (by decide), if_pos rfl]
      obtain ⟨L, hL⟩ : ∃ L : List Int, L = l.set k.toNat b := ⟨_, rfl⟩
      have hLl : L.length = l.length := by rw [hL, List.length_set]
      rw [← hL]
      refine Ok.still (R := fun r h' => r = .sl 0 [] 1 0 l.length ∧ h' = [(0, .arr l.length 1 (fun i => .int .i64 (L.getD i 0)))]) ?_ ?_
      · refine Ok.of_vcC tt_ok Try.func17 rfl rfl (by show 4 ≤ _; decide) 0 (hlt_ok (by rfl)) fun c0 => ?_
        repeat' (first | (refine SS_ ?_) | (refine Seq.callp false (c1) Try.func12 GOk.nil subG.nil (by rfl) (by rfl) rfl rfl rfl rfl rfl (by rfl) rfl VW_ NI_ NI_ FR_ ?_) | (refine Seq.callp false (c2) Try.func12 GOk.nil subG.nil (by rfl) (by rfl) rfl rfl rfl rfl rfl (by rfl) rfl VW_ NI_ NI_ FR_ ?_) | (refine VC.litT (by rfl) LTR_ ?_) | (refine VC.litF (by rfl) LFA_ ?_) | fail)
        refine retC_mk ([(8, .sl 0 [] 1 0 l.length)]) ([(0, .arr l.length 1 (fun i => .int .i64 (L.getD i 0)))]) 1 ?_ (retQ_ok (by rfl) ([(0, .arr l.length 1 (fun i => .int .i64 (L.getD i 0)))]) (fun i av h => h) ⟨?_, ?_⟩)
        · (refine Sim.less [] (by rfl) ?_ ?_ <;> (repeat' (first | (exact EnvLe.nil) | (exact HeapLe.nil) | (with_reducible apply EnvLe.cons) | (with_reducible apply HeapLe.cons) | (exact rfl) | (exact ⟨rfl, rfl⟩) | ((refine RelA.arr ?_; intro i hi)) | fail)) <;> (try with_reducible refine Keep.mk ?_))
          rw [hL]
          exact rel_setG (G := fun x : Int => AV.int .i64 x) (fun e => NI_) (by omega) (by rw [Nat.zero_add]; rfl)
        · rfl
        · rfl
      · rintro r h' ⟨rfl, rfl⟩
        exact ⟨_, viewT_li (by rfl) hLl fun i _ => rfl, rfl, rfl⟩
    · rw [if_neg (by decide), if_neg (by decide), if_neg (by decide)]
      obtain ⟨L, hL⟩ : ∃ L : List Int, L = l.set k.toNat (IntKind.i64.wrap (IntKind.i64.wrap (l.getD k.toNat 0 + q) - 1)) := ⟨_, rfl⟩
      have hLl : L.length = l.length := by rw [hL, List.length_set]
      rw [← hL]
      refine Ok.still (R := fun r h' => r = .sl 0 [] 1 0 l.length ∧ h' = [(0, .arr l.length 1 (fun i => .int .i64 (L.getD i 0)))]) ?_ ?_
      · refine Ok.of_vcC tt_ok Try.func17 rfl rfl (by show 4 ≤ _; decide) 0 (hlt_ok (by rfl)) fun c0 => ?_
        repeat' (first | (refine SS_ ?_) | (refine Seq.callp false (c1) Try.func12 GOk.nil subG.nil (by rfl) (by rfl) rfl rfl rfl rfl rfl (by rfl) rfl VW_ NI_ NI_ FR_ ?_) | (refine Seq.callp false (c2) Try.func12 GOk.nil subG.nil (by rfl) (by rfl) rfl rfl rfl rfl rfl (by rfl) rfl VW_ NI_ NI_ FR_ ?_) | (refine VC.drawm (id := 6) [(0, 0), (1, 0), (2, 0), (3, 0), (4, 12), (5, 28), (6, 0), (7, 64), (8, 252), (9, 508), (10, 1023)] [11] (by rfl) (by kernel_rfl) (by rfl) ?_) | (refine DSeq.callp false (c3) Try.func12 GOk.nil subG.nil (by rfl) (fastE (by rfl)) (fastH (by rfl)) (by rfl) (by rfl) rfl rfl rfl rfl rfl (by rfl) (by rfl) VW_ NI_ NI_ FR_ ?_) | (refine DSeq.val (by rfl) (fastE (by rfl)) (fastH (by rfl)) (addv_ok (by rfl) (by rfl) _ rfl) (by rfl) (by rfl) ?_) | (refine DSeq.val (by rfl) (fastE (by rfl)) (fastH (by rfl)) (subv_ok (by rfl) (by rfl) _ rfl) (by rfl) (by rfl) ?_) | (refine VC.litF (by rfl) LFA_ ?_) | (refine DD_ ?_) | fail)
        refine retC_mk ([(8, .sl 0 [] 1 0 l.length)]) ([(0, .arr l.length 1 (fun i => .int .i64 (L.getD i 0)))]) 1 ?_ (retQ_ok (by rfl) ([(0, .arr l.length 1 (fun i => .int .i64 (L.getD i 0)))]) (fun i av h => h) ⟨?_, ?_⟩)
        · (refine Sim.less [] (by rfl) ?_ ?_ <;> (repeat' (first | (exact EnvLe.nil) | (exact HeapLe.nil) | (with_reducible apply EnvLe.cons) | (with_reducible apply HeapLe.cons) | (exact rfl) | (exact ⟨rfl, rfl⟩) | ((refine RelA.arr ?_; intro i hi)) | fail)) <;> (try with_reducible refine Keep.mk ?_))
          rw [hL]
          exact rel_setG (G := fun x : Int => AV.int .i64 x) (fun e => NI_) (by omega) (by rw [Nat.zero_add]; rfl)
        · rfl
        · rfl
      · rintro r h' ⟨rfl, rfl⟩
        exact ⟨_, viewT_li (by rfl) hLl fun i _ => rfl, rfl, rfl⟩
end Go.Proofs.Ytkpidpmlehkjbaa
