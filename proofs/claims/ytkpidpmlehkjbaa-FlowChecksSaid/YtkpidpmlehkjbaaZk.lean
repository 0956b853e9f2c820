/- Flow: edges with something changed. -/
import Derived.Test.YtkpidpmlehkjbaaZj
set_option linter.unusedSimpArgs false
set_option linter.unusedVariables false
namespace Go.Fl
open Go.Lx
/-- What a case of Bent changes in an edge. -/
def bentE (c m : Int) (e : Ed) : Ed :=
  if c = 0 then ⟨m - 2, e.b, e.lo, e.hi, e.c⟩ else if c = 1 then ⟨e.a, m - 2, e.lo, e.hi, e.c⟩ else if c = 2 then ⟨e.a, e.b, m - 1, e.hi, e.c⟩
  else if c = 3 then ⟨e.a, e.b, e.lo, ([1000, 1001, -1, 0] : List Int).getD (m % 4).toNat 0, e.c⟩ else ⟨e.a, e.b, e.lo, e.hi, ([1000, 1001, -1000, -1001] : List Int).getD (m % 4).toNat 0⟩
def bentX (l : List Ed) (at' how by' : Int) : List Ed :=
  if l = [] then [⟨by', 0, 0, 0, 0⟩] else
  if aroundI how 6 < 5 then l.set (aroundI at' l.length).toNat (bentE (aroundI how 6) (aroundI by' 9) (l.getD (aroundI at' l.length).toNat edZ))
  else (l ++ List.replicate 256 edZ).take (255 + aroundI by' 9 % 3).toNat
end Go.Fl
namespace Go.Proofs.Ytkpidpmlehkjbaa
open Go.V Go.RowKit Go.L Go.Lx Go.Fl
set_option maxRecDepth 10000
set_option maxHeartbeats 4000000
theorem viewT_ed {H : Asc} {id n n' : Nat} {l : List Ed} {f : Nat → AV} (h : get? H id = some (.arr n' 5 f)) (hl : l.length = n) (hn : n ≤ n') (hf : ∀ i, i < n → f i = edA (l.getD i edZ)) : ViewT H (edT l) (.sl id [] 5 0 n) :=
  ViewT.sl h rfl trivial (by omega) hl fun i hi => .rel (by rw [Nat.zero_add, hf i (by omega)]; exact NoId.self NI_)
theorem bent_nil (l : List Ed) (hl : l.length = 0) (at' how by' : Int) : Ok Try.prog 11 [] [] (.pair (edV l) (.pair (.int .i64 at') (.pair (.int .i64 how) (.pair (.int .i64 by') .nul)))) (fun r h' => r = edT [⟨by', 0, 0, 0, 0⟩] ∧ h' = []) := by
  refine Ok.still (R := fun r h' => r = .sl 2 [] 5 0 (l.length + 1) ∧ h' = [(2, .arr (l.length + 1) 5 (fun i => edA (([⟨by', 0, 0, 0, 0⟩] : List Ed).getD i edZ)))]) ?_ ?_
  · refine Ok.of_vcC tt_ok Try.func11 rfl rfl (by show 4 ≤ _; decide) 0 (hlt_ok (by rfl)) fun c0 => ?_
    repeat' (first | (refine SS_ ?_) | (refine VC.litT (by rfl) LTR_ ?_) | fail)
    refine retC_mk ([(8, .sl 2 [] 5 0 (l.length + 1))]) ([(2, .arr (l.length + 1) 5 (fun i => edA (([⟨by', 0, 0, 0, 0⟩] : List Ed).getD i edZ)))]) 3 ?_ (retQ_ok (by rfl) ([(2, .arr (l.length + 1) 5 (fun i => edA (([⟨by', 0, 0, 0, 0⟩] : List Ed).getD i edZ)))]) (fun i av h => h) ⟨?_, ?_⟩)
    · (refine Sim.less [] (by rfl) ?_ ?_ <;> (repeat' (first | (exact EnvLe.nil) | (exact HeapLe.nil) | (with_reducible apply EnvLe.cons) | (with_reducible apply HeapLe.cons) | (exact rfl) | (exact ⟨rfl, rfl⟩) | ((refine RelA.arr ?_; intro i hi)) | fail)) <;> (try with_reducible refine Keep.mk ?_))
      have hi0 : i = 0 := by omega
      subst hi0
      rw [joinF_ge (by omega), show 0 - l.length = 0 by omega]
      exact NoId.self (a := edA ⟨by', 0, 0, 0, 0⟩) NI_
    · rfl
    · rfl
  · rintro r h' ⟨rfl, rfl⟩
    exact ⟨_, viewT_ed (l := [⟨by', 0, 0, 0, 0⟩]) (by rfl) (by show 1 = l.length + 1; omega) (Nat.le_refl _) fun i _ => rfl, rfl, rfl⟩
theorem bent_set (l : List Ed) (hl : l.length ≤ 1048576) (hne : l ≠ []) (at' how by' : Int) (h1 : I64 at') (h2 : I64 how) (h3 : I64 by') (hc : aroundI how 6 < 5) : Ok Try.prog 11 [] [] (.pair (edV l) (.pair (.int .i64 at') (.pair (.int .i64 how) (.pair (.int .i64 by') .nul)))) (fun r h' => r = edT (l.set (aroundI at' l.length).toNat (bentE (aroundI how 6) (aroundI by' 9) (l.getD (aroundI at' l.length).toNat edZ))) ∧ h' = []) := by
  have hl0 : 0 < l.length := (by cases l with | nil => exact absurd rfl hne | cons e l => simp)
  have d1 := around_lt at' l.length (by omega)
  have d2 := around_lt by' 9 (by omega)
  have d3 := around_lt how 6 (by omega)
  have c1 := lAround_ok at' l.length h1
  have c2 := lAround_ok by' 9 h3
  have c3 := lAround_ok how 6 h2
  generalize aroundI at' l.length = k at *
  generalize aroundI by' 9 = m at *
  generalize aroundI how 6 = c at *
  obtain ⟨L, hL⟩ : ∃ L, L = l.set k.toNat (bentE c m (l.getD k.toNat edZ)) := ⟨_, rfl⟩
  rw [← hL]
  have hLl : L.length = l.length := by rw [hL, List.length_set]
  refine Ok.still (R := fun r h' => r = .sl 0 [] 5 0 l.length ∧ h' = [(0, .arr l.length 5 (fun i => edA (L.getD i edZ)))]) ?_ ?_
  · rcases (by omega : c = 0 ∨ c = 1 ∨ c = 2 ∨ c = 3 ∨ c = 4) with rfl | rfl | rfl | rfl | rfl
    · refine Ok.of_vcC tt_ok Try.func11 rfl rfl (by show 4 ≤ _; decide) 0 (hlt_ok (by rfl)) fun c0 => ?_
      repeat' (first | (refine SS_ ?_) | (refine Seq.callp false (c1) Try.func12 GOk.nil subG.nil (by rfl) (by rfl) rfl rfl rfl rfl rfl (by rfl) rfl VW_ NI_ NI_ FR_ ?_) | (refine Seq.callp false (c2) Try.func12 GOk.nil subG.nil (by rfl) (by rfl) rfl rfl rfl rfl rfl (by rfl) rfl VW_ NI_ NI_ FR_ ?_) | (refine Seq.callp false (c3) Try.func12 GOk.nil subG.nil (by rfl) (by rfl) rfl rfl rfl rfl rfl (by rfl) rfl VW_ NI_ NI_ FR_ ?_) | (refine VC.litT (by rfl) LTR_ ?_) | (refine VC.litF (by rfl) LFA_ ?_) | fail)
      refine retC_mk ([(8, .sl 0 [] 5 0 l.length)]) ([(0, .arr l.length 5 (fun i => edA (L.getD i edZ)))]) 1 ?_ (retQ_ok (by rfl) ([(0, .arr l.length 5 (fun i => edA (L.getD i edZ)))]) (fun i av h => h) ⟨?_, ?_⟩)
      · (refine Sim.less [] (by rfl) ?_ ?_ <;> (repeat' (first | (exact EnvLe.nil) | (exact HeapLe.nil) | (with_reducible apply EnvLe.cons) | (with_reducible apply HeapLe.cons) | (exact rfl) | (exact ⟨rfl, rfl⟩) | ((refine RelA.arr ?_; intro i hi)) | fail)) <;> (try with_reducible refine Keep.mk ?_))
        rw [hL]
        exact rel_setG (G := edA) (fun e => NI_) (by omega) (by rw [Nat.zero_add]; rfl)
      · rfl
      · rfl
    · refine Ok.of_vcC tt_ok Try.func11 rfl rfl (by show 4 ≤ _; decide) 0 (hlt_ok (by rfl)) fun c0 => ?_
      repeat' (first | (refine SS_ ?_) | (refine Seq.callp false (c1) Try.func12 GOk.nil subG.nil (by rfl) (by rfl) rfl rfl rfl rfl rfl (by rfl) rfl VW_ NI_ NI_ FR_ ?_) | (refine Seq.callp false (c2) Try.func12 GOk.nil subG.nil (by rfl) (by rfl) rfl rfl rfl rfl rfl (by rfl) rfl VW_ NI_ NI_ FR_ ?_) | (refine Seq.callp false (c3) Try.func12 GOk.nil subG.nil (by rfl) (by rfl) rfl rfl rfl rfl rfl (by rfl) rfl VW_ NI_ NI_ FR_ ?_) | (refine VC.litT (by rfl) LTR_ ?_) | (refine VC.litF (by rfl) LFA_ ?_) | fail)
      refine retC_mk ([(8, .sl 0 [] 5 0 l.length)]) ([(0, .arr l.length 5 (fun i => edA (L.getD i edZ)))]) 1 ?_ (retQ_ok (by rfl) ([(0, .arr l.length 5 (fun i => edA (L.getD i edZ)))]) (fun i av h => h) ⟨?_, ?_⟩)
      · (refine Sim.less [] (by rfl) ?_ ?_ <;> (repeat' (first | (exact EnvLe.nil) | (exact HeapLe.nil) | (with_reducible apply EnvLe.cons) | (with_reducible apply HeapLe.cons) | (exact rfl) | (exact ⟨rfl, rfl⟩) | ((refine RelA.arr ?_; intro i hi)) | fail)) <;> (try with_reducible refine Keep.mk ?_))
        rw [hL]
        exact rel_setG (G := edA) (fun e => NI_) (by omega) (by rw [Nat.zero_add]; rfl)
      · rfl
      · rfl
    · refine Ok.of_vcC tt_ok Try.func11 rfl rfl (by show 4 ≤ _; decide) 0 (hlt_ok (by rfl)) fun c0 => ?_
      repeat' (first | (refine SS_ ?_) | (refine Seq.callp false (c1) Try.func12 GOk.nil subG.nil (by rfl) (by rfl) rfl rfl rfl rfl rfl (by rfl) rfl VW_ NI_ NI_ FR_ ?_) | (refine Seq.callp false (c2) Try.func12 GOk.nil subG.nil (by rfl) (by rfl) rfl rfl rfl rfl rfl (by rfl) rfl VW_ NI_ NI_ FR_ ?_) | (refine Seq.callp false (c3) Try.func12 GOk.nil subG.nil (by rfl) (by rfl) rfl rfl rfl rfl rfl (by rfl) rfl VW_ NI_ NI_ FR_ ?_) | (refine VC.litT (by rfl) LTR_ ?_) | (refine VC.litF (by rfl) LFA_ ?_) | fail)
      refine retC_mk ([(8, .sl 0 [] 5 0 l.length)]) ([(0, .arr l.length 5 (fun i => edA (L.getD i edZ)))]) 1 ?_ (retQ_ok (by rfl) ([(0, .arr l.length 5 (fun i => edA (L.getD i edZ)))]) (fun i av h => h) ⟨?_, ?_⟩)
      · (refine Sim.less [] (by rfl) ?_ ?_ <;> (repeat' (first | (exact EnvLe.nil) | (exact HeapLe.nil) | (with_reducible apply EnvLe.cons) | (with_reducible apply HeapLe.cons) | (exact rfl) | (exact ⟨rfl, rfl⟩) | ((refine RelA.arr ?_; intro i hi)) | fail)) <;> (try with_reducible refine Keep.mk ?_))
        rw [hL]
        exact rel_setG (G := edA) (fun e => NI_) (by omega) (by rw [Nat.zero_add]; rfl)
      · rfl
      · rfl
    · rcases (by omega : m = 0 ∨ m = 1 ∨ m = 2 ∨ m = 3 ∨ m = 4 ∨ m = 5 ∨ m = 6 ∨ m = 7 ∨ m = 8) with rfl | rfl | rfl | rfl | rfl | rfl | rfl | rfl | rfl
      all_goals
        refine Ok.of_vcC tt_ok Try.func11 rfl rfl (by show 4 ≤ _; decide) 0 (hlt_ok (by rfl)) fun c0 => ?_
        repeat' (first | (refine SS_ ?_) | (refine Seq.callp false (c1) Try.func12 GOk.nil subG.nil (by rfl) (by rfl) rfl rfl rfl rfl rfl (by rfl) rfl VW_ NI_ NI_ FR_ ?_) | (refine Seq.callp false (c2) Try.func12 GOk.nil subG.nil (by rfl) (by rfl) rfl rfl rfl rfl rfl (by rfl) rfl VW_ NI_ NI_ FR_ ?_) | (refine Seq.callp false (c3) Try.func12 GOk.nil subG.nil (by rfl) (by rfl) rfl rfl rfl rfl rfl (by rfl) rfl VW_ NI_ NI_ FR_ ?_) | (refine VC.litT (by rfl) LTR_ ?_) | (refine VC.litF (by rfl) LFA_ ?_) | fail)
        refine retC_mk ([(8, .sl 0 [] 5 0 l.length)]) ([(0, .arr l.length 5 (fun i => edA (L.getD i edZ)))]) 2 ?_ (retQ_ok (by rfl) ([(0, .arr l.length 5 (fun i => edA (L.getD i edZ)))]) (fun i av h => h) ⟨?_, ?_⟩)
        · (refine Sim.less [] (by rfl) ?_ ?_ <;> (repeat' (first | (exact EnvLe.nil) | (exact HeapLe.nil) | (with_reducible apply EnvLe.cons) | (with_reducible apply HeapLe.cons) | (exact rfl) | (exact ⟨rfl, rfl⟩) | ((refine RelA.arr ?_; intro i hi)) | fail)) <;> (try with_reducible refine Keep.mk ?_))
          rw [hL]
          exact rel_setG (G := edA) (fun e => NI_) (by omega) (by rw [Nat.zero_add]; rfl)
        · rfl
        · rfl
    · rcases (by omega : m = 0 ∨ m = 1 ∨ m = 2 ∨ m = 3 ∨ m = 4 ∨ m = 5 ∨ m = 6 ∨ m = 7 ∨ m = 8) with rfl | rfl | rfl | rfl | rfl | rfl | rfl | rfl | rfl
      all_goals
        refine Ok.of_vcC tt_ok Try.func11 rfl rfl (by show 4 ≤ _; decide) 0 (hlt_ok (by rfl)) fun c0 => ?_
        repeat' (first | (refine SS_ ?_) | (refine Seq.callp false (c1) Try.func12 GOk.nil subG.nil (by rfl) (by rfl) rfl rfl rfl rfl rfl (by rfl) rfl VW_ NI_ NI_ FR_ ?_) | (refine Seq.callp false (c2) Try.func12 GOk.nil subG.nil (by rfl) (by rfl) rfl rfl rfl rfl rfl (by rfl) rfl VW_ NI_ NI_ FR_ ?_) | (refine Seq.callp false (c3) Try.func12 GOk.nil subG.nil (by rfl) (by rfl) rfl rfl rfl rfl rfl (by rfl) rfl VW_ NI_ NI_ FR_ ?_) | (refine VC.litT (by rfl) LTR_ ?_) | (refine VC.litF (by rfl) LFA_ ?_) | fail)
        refine retC_mk ([(8, .sl 0 [] 5 0 l.length)]) ([(0, .arr l.length 5 (fun i => edA (L.getD i edZ)))]) 2 ?_ (retQ_ok (by rfl) ([(0, .arr l.length 5 (fun i => edA (L.getD i edZ)))]) (fun i av h => h) ⟨?_, ?_⟩)
        · (refine Sim.less [] (by rfl) ?_ ?_ <;> (repeat' (first | (exact EnvLe.nil) | (exact HeapLe.nil) | (with_reducible apply EnvLe.cons) | (with_reducible apply HeapLe.cons) | (exact rfl) | (exact ⟨rfl, rfl⟩) | ((refine RelA.arr ?_; intro i hi)) | fail)) <;> (try with_reducible refine Keep.mk ?_))
          rw [hL]
          exact rel_setG (G := edA) (fun e => NI_) (by omega) (by rw [Nat.zero_add]; rfl)
        · rfl
        · rfl
  · rintro r h' ⟨rfl, rfl⟩
    exact ⟨_, viewT_ed (by rfl) hLl (Nat.le_refl _) fun i _ => rfl, rfl, rfl⟩
theorem bent_more (l : List Ed) (hl : l.length ≤ 1048576) (hne : l ≠ []) (at' how by' : Int) (h1 : I64 at') (h2 : I64 how) (h3 : I64 by') (hc : ¬ aroundI how 6 < 5) : Ok Try.prog 11 [] [] (.pair (edV l) (.pair (.int .i64 at') (.pair (.int .i64 how) (.pair (.int .i64 by') .nul)))) (fun r h' => r = edT ((l ++ List.replicate 256 edZ).take (255 + aroundI by' 9 % 3).toNat) ∧ h' = []) := by
  have hl0 : 0 < l.length := (by cases l with | nil => exact absurd rfl hne | cons e l => simp)
  have d1 := around_lt at' l.length (by omega)
  have d2 := around_lt by' 9 (by omega)
  have d3 := around_lt how 6 (by omega)
  have c1 := lAround_ok at' l.length h1
  have c2 := lAround_ok by' 9 h3
  have c3 := lAround_ok how 6 h2
  generalize aroundI at' l.length = k at *
  generalize aroundI by' 9 = m at *
  generalize aroundI how 6 = c at *
  obtain rfl : c = 5 := by omega
  have hm3 := Int.emod_nonneg m (show (3 : Int) ≠ 0 by omega)
  have hm4 := Int.emod_lt_of_pos m (show (0 : Int) < 3 by omega)
  refine Ok.still (R := fun r h' => r = .sl 0 [] 5 0 (255 + m % 3).toNat ∧ h' = [(0, .arr (l.length + 256) 5 (fun i => edA ((l ++ List.replicate 256 edZ).getD i edZ)))]) ?_ ?_
  · refine Ok.of_vcC tt_ok Try.func11 rfl rfl (by show 4 ≤ _; decide) 0 (hlt_ok (by rfl)) fun c0 => ?_
    repeat' (first | (refine SS_ ?_) | (refine Seq.callp false (c1) Try.func12 GOk.nil subG.nil (by rfl) (by rfl) rfl rfl rfl rfl rfl (by rfl) rfl VW_ NI_ NI_ FR_ ?_) | (refine Seq.callp false (c2) Try.func12 GOk.nil subG.nil (by rfl) (by rfl) rfl rfl rfl rfl rfl (by rfl) rfl VW_ NI_ NI_ FR_ ?_) | (refine Seq.callp false (c3) Try.func12 GOk.nil subG.nil (by rfl) (by rfl) rfl rfl rfl rfl rfl (by rfl) rfl VW_ NI_ NI_ FR_ ?_) | (refine VC.litF (by rfl) LFA_ ?_) | fail)
    refine VC.loop (fun j : Nat => ⟨[(12, .int .i64 (j : Nat)), (11, .int .i64 m), (9, .sl 0 [] 5 0 (l.length + j))], [(0, .arr (l.length + j) 5 (fun i => edA ((l ++ List.replicate 256 edZ).getD i edZ)))], [], 1⟩) (fun j => j ≤ 256) (fun j => 256 - j) 0 (by omega) (by
      show ∀ a w, _ → Sim _ ⟨[(12, .int .i64 ((0 : Nat) : Int)), (11, .int .i64 m), (9, .sl 0 [] 5 0 l.length)], [(0, .arr l.length 5 (fun i => edA ((l ++ List.replicate 256 edZ).getD i edZ)))], [], 1⟩ a w
      (refine Sim.less [] (by rfl) ?_ ?_ <;> (repeat' (first | (exact EnvLe.nil) | (exact HeapLe.nil) | (with_reducible apply EnvLe.cons) | (with_reducible apply HeapLe.cons) | ((with_reducible refine RelA.int ?_; first | (refine Keep.mk ?_; first | with_reducible rfl | omega | decide) | skip)) | (exact rfl) | (exact ⟨rfl, rfl⟩) | (with_reducible refine RelA.pair ?_ ?_) | ((refine RelA.arr ?_; intro i hi)) | fail)) <;> (try with_reducible refine Keep.mk ?_))
      all_goals rw [app_lt (by assumption)]) fun j hj => ?_
    by_cases hjm : j < 256
    · repeat' (first | (refine SS_ ?_) | (refine VC.litT (by rfl) LTR_ ?_) | fail)
      refine ⟨j + 1, by omega, by omega, ?_⟩
      show ∀ a w, _ → Sim _ ⟨[(12, .int .i64 ((j + 1 : Nat) : Int)), (11, .int .i64 m), (9, .sl 0 [] 5 0 (l.length + j + 1))], [(0, .arr (l.length + j + 1) 5 (fun i => edA ((l ++ List.replicate 256 edZ).getD i edZ)))], [], 1⟩ a w
      (refine Sim.less [(0, 2)] (by rfl) ?_ ?_ <;> (repeat' (first | (exact EnvLe.nil) | (exact HeapLe.nil) | (with_reducible apply EnvLe.cons) | (with_reducible apply HeapLe.cons) | ((with_reducible refine RelA.int ?_; first | (refine Keep.mk ?_; first | with_reducible rfl | omega | decide) | skip)) | (exact rfl) | (exact ⟨rfl, rfl⟩) | ((refine RelA.arr ?_; intro i hi)) | fail)) <;> (try with_reducible refine Keep.mk ?_))
      by_cases e : i < l.length + j
      · rw [joinF_lt e]
        exact NoId.self NI_
      · rw [joinF_ge (by omega), show i - (l.length + j) = 0 by omega, show (l ++ List.replicate 256 edZ).getD i edZ = edZ by
          rw [List.getD_eq_getElem?_getD, List.getElem?_append_right (by omega), List.getElem?_replicate]; split <;> rfl]
        exact NoId.self (a := edA edZ) NI_
    · obtain rfl : j = 256 := by omega
      repeat' (first | (refine SS_ ?_) | (refine VC.litF (by rfl) LFA_ ?_) | fail)
      simp only [Nat.sub_zero, Nat.zero_add]
      (refine retC_mk ([(8, .sl 0 [] 5 0 (255 + m % 3).toNat)]) ([(0, .arr (l.length + 256) 5 (fun i => edA ((l ++ List.replicate 256 edZ).getD i edZ)))]) 1 (Sim.less [] (by rfl) R_ R_) (retQ_ok (by rfl) ([(0, .arr (l.length + 256) 5 (fun i => edA ((l ++ List.replicate 256 edZ).getD i edZ)))]) (fun i av h => h) ⟨?_, ?_⟩)) <;> rfl
  · rintro r h' ⟨rfl, rfl⟩
    refine ⟨_, viewT_ed (by rfl) (by rw [List.length_take, List.length_append, List.length_replicate]; omega) (by omega) fun i hi => ?_, rfl, rfl⟩
    rw [List.getD_eq_getElem?_getD, List.getD_eq_getElem?_getD, List.getElem?_take, if_pos hi]
theorem bent_ok (l : List Ed) (hl : l.length ≤ 1048576) (at' how by' : Int) (h1 : I64 at') (h2 : I64 how) (h3 : I64 by') : Ok Try.prog 11 [] [] (.pair (edV l) (.pair (.int .i64 at') (.pair (.int .i64 how) (.pair (.int .i64 by') .nul)))) (fun r h' => r = edT (bentX l at' how by') ∧ h' = []) := by
  unfold bentX
  by_cases hne : l = []
  · rw [if_pos hne]
    exact bent_nil l (by rw [hne]; rfl) at' how by'
  · rw [if_neg hne]
    by_cases hc : aroundI how 6 < 5
    · rw [if_pos hc]; exact bent_set l hl hne at' how by' h1 h2 h3 hc
    · rw [if_neg hc]; exact bent_more l hl hne at' how by' h1 h2 h3 hc
end Go.Proofs.Ytkpidpmlehkjbaa
