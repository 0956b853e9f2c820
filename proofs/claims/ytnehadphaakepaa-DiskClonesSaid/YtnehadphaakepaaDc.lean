
/- Disks: the sorted keys of the two maps. -/
import Derived.Test.YtnehadphaakepaaDb
import Derived.Test.YtnehadphaakepaaSg
import Derived.Test.YtnehadphaakepaaSk
set_option linter.unusedSimpArgs false
set_option linter.unusedVariables false
namespace Go.Proofs.Ytnehadphaakepaa
open Go.V Go.RowKit Go.L Go.Dk Go.Maps Go.Shelf
theorem sorts_ok (m : Nat) : AnyZI.SortsIn Try.prog sorted48_ren Fence.wide m :=
  ⟨fun blk off cap ss W hH hblk hsz => callsIn_wide.2 (AnyM.slices_Sort_int sort59 blk off cap ss W hH hblk hsz),
   fun p cap W => callsIn_wide.2 (AnyM.slices_Sort_int_none sort59 p cap W)⟩
def intsT (l : List Int) : AV := .rsl true l.length 1 (fun i => .int .i64 (l.getD i 0))
theorem int_wf {k : Int} (h : -9223372036854775808 ≤ k ∧ k ≤ 9223372036854775807) : (Lit.int .i64 k).wf = true := by
  simp only [Lit.wf, IntKind.min, IntKind.max, IntKind.signed, IntKind.bits, Bool.and_eq_true, decide_eq_true_eq]
  simpa using h
set_option maxHeartbeats 1000000 in
theorem sortedP_ok (P : PM) (hnd : (P.map (·.1)).Nodup) (hb : ∀ q ∈ P, i64B q.1) (hl : P.length ≤ 1048576) :
    Ok Try.prog 48 [] [(2, pendA P), (4, .mp 2)] (.pair (.fn (.func 60) .nul (.pair (.ptr 4 []) .nul)) .nul) (fun r h' => r = intsT (sortI (P.map (·.1))) ∧ h' = [(2, pendA P)]) := by
  refine Ok.of_callsH (h1 := [(2, pendA P)]) (fun i av hi => ?_) fun c vs hc hB hh hvs => ?_
  · rw [get?_cons] at hi ⊢
    split at hi
    · rename_i e; rw [if_pos e]; exact hi
    · cases hi
  have hG2 : ¬ c.G 4 ∧ ¬ c.G 2 := by
    obtain ⟨v, vs', rfl, hv, hn⟩ := hvs
    obtain ⟨fs, cs, _, hfs, hcs⟩ := hv
    obtain ⟨x, y, rfl, hx, hy⟩ := hcs
    have ho := hh.obj 4 (.mp 2) rfl hx.2.1
    obtain ⟨cs, t, xs, ys, hb1, hc1, hr⟩ := ho.cells rfl
    exact ⟨hx.2.1, hr.2.1⟩
  obtain ⟨es, clock, hbk, hn, hes, h1, h2⟩ := mapAt_of (K := KI) (V := blkA) (d := (0, [])) (l := P) hh rfl hG2.2
  have hkeys := map_keys keyI hn hes
  obtain ⟨D0, hown, hperm, hsize⟩ := owns_of (P := Try.prog) u_int hbk hkeys hnd (fun k hk => by
    obtain ⟨q, hq, rfl⟩ := List.mem_map.1 hk
    exact int_wf (hb q hq)) h1 h2 (by rw [List.length_map]; unfold maxLen; omega)
  obtain ⟨cs4, t4, xs4, ys4, hb4, rfl, hr4⟩ := (hh.obj 4 (.mp 2) rfl hG2.1).cells rfl
  have hr4 := hr4.2.2
  subst hr4
  have hcell : c.w.cell? ⟨c.ρ 4, 0, none⟩ = some (.map (some (c.ρ 2))) := by
    exact hb4.cell rfl
  have hlt4 : c.ρ 4 < c.w.heap.size := (hh.obj 4 (.mp 2) rfl hG2.1).lt
  obtain ⟨v, vs', rfl, hv, hnul⟩ := hvs
  have hnul : vs' = [] := hnul
  subst hnul
  obtain ⟨fs, cs, hv, hfs, hcs⟩ := hv
  simp only [List.cons.injEq, and_true] at hv
  subst hv
  have hfs : fs = [] := hfs
  subst hfs
  obtain ⟨x, y, rfl, hx, hy⟩ := hcs
  have hy : y = [] := hy
  subst hy
  have hx := hx.2.2
  simp only [List.cons.injEq, and_true] at hx
  subst hx
  have hseq : SeqGives Fence.wide 2 Try.prog 60 #[.pointer (some ⟨c.ρ 4, 0, none⟩)] encZ (fun ss => ss.Perm (intKeys D0)) (Maps.size D0) c.w :=
    AnyZI.keys_gives (ρ := keys49_ren) { keys49 with } Fence.wide _ trivial rfl (by omega) (c.ρ 4) (c.ρ 2) _ D0 _ hlt4 hcell hown
  have cS := AnyZI.sorted_in sorted48 Fence.wide 5 trivial trivial trivial trivial rfl (by omega) (sorts_ok _) (enters_of Try.func59 (by kernel_rfl) rfl) 60 #[.pointer (some ⟨c.ρ 4, 0, none⟩)] trivial (enters_of Try.func60 (by kernel_rfl) rfl) _ (Maps.size D0) (by rw [hsize, List.length_map]; unfold maxLen; omega) (by rw [hsize, List.length_map]; omega) _ hseq
  refine (callsIn_wide.1 cS).mono fun e w' h => ?_
  obtain ⟨v, ss, rfl, hS, hrow, _, hbel⟩ := h
  refine ⟨hbel, v, _, rfl, ⟨rfl, rfl⟩, ?_⟩
  have hE : ss.mergeSort (fun x y => decide (x ≤ y)) = sortI (P.map (·.1)) := mergeSort_of_perm_i (hS.trans hperm)
  have hL : ss.length = (sortI (P.map (·.1))).length := by rw [← hE]; exact (List.mergeSort_perm _ _).length_eq.symm
  rw [hE, hL] at hrow
  exact rep_ownsRow hB hbel hrow
set_option maxHeartbeats 1000000 in
theorem sortedW_ok (W : WM) (hnd : (W.map (·.1)).Nodup) (hb : ∀ q ∈ W, i64B q.1) (hl : W.length ≤ 1048576) :
    Ok Try.prog 48 [] [(3, wornA W), (4, .mp 3)] (.pair (.fn (.func 61) .nul (.pair (.ptr 4 []) .nul)) .nul) (fun r h' => r = intsT (sortI (W.map (·.1))) ∧ h' = [(3, wornA W)]) := by
  refine Ok.of_callsH (h1 := [(3, wornA W)]) (fun i av hi => ?_) fun c vs hc hB hh hvs => ?_
  · rw [get?_cons] at hi ⊢
    split at hi
    · rename_i e; rw [if_pos e]; exact hi
    · cases hi
  have hG2 : ¬ c.G 4 ∧ ¬ c.G 3 := by
    obtain ⟨v, vs', rfl, hv, hn⟩ := hvs
    obtain ⟨fs, cs, _, hfs, hcs⟩ := hv
    obtain ⟨x, y, rfl, hx, hy⟩ := hcs
    have ho := hh.obj 4 (.mp 3) rfl hx.2.1
    obtain ⟨cs, t, xs, ys, hb1, hc1, hr⟩ := ho.cells rfl
    exact ⟨hx.2.1, hr.2.1⟩
  obtain ⟨es, clock, hbk, hn, hes, h1, h2⟩ := mapAt_of (K := KI) (V := VB) (d := (0, false)) (l := W) hh rfl hG2.2
  have hkeys := map_keys keyI hn hes
  obtain ⟨D0, hown, hperm, hsize⟩ := owns_of (P := Try.prog) u_int hbk hkeys hnd (fun k hk => by
    obtain ⟨q, hq, rfl⟩ := List.mem_map.1 hk
    exact int_wf (hb q hq)) h1 h2 (by rw [List.length_map]; unfold maxLen; omega)
  obtain ⟨cs4, t4, xs4, ys4, hb4, rfl, hr4⟩ := (hh.obj 4 (.mp 3) rfl hG2.1).cells rfl
  have hr4 := hr4.2.2
  subst hr4
  have hcell : c.w.cell? ⟨c.ρ 4, 0, none⟩ = some (.map (some (c.ρ 3))) := by
    exact hb4.cell rfl
  have hlt4 : c.ρ 4 < c.w.heap.size := (hh.obj 4 (.mp 3) rfl hG2.1).lt
  obtain ⟨v, vs', rfl, hv, hnul⟩ := hvs
  have hnul : vs' = [] := hnul
  subst hnul
  obtain ⟨fs, cs, hv, hfs, hcs⟩ := hv
  simp only [List.cons.injEq, and_true] at hv
  subst hv
  have hfs : fs = [] := hfs
  subst hfs
  obtain ⟨x, y, rfl, hx, hy⟩ := hcs
  have hy : y = [] := hy
  subst hy
  have hx := hx.2.2
  simp only [List.cons.injEq, and_true] at hx
  subst hx
  have hseq : SeqGives Fence.wide 2 Try.prog 61 #[.pointer (some ⟨c.ρ 4, 0, none⟩)] encZ (fun ss => ss.Perm (intKeys D0)) (Maps.size D0) c.w :=
    AnyZI.keys_gives (ρ := keys50_ren) { keys50 with } Fence.wide _ trivial rfl (by omega) (c.ρ 4) (c.ρ 3) _ D0 _ hlt4 hcell hown
  have cS := AnyZI.sorted_in sorted48 Fence.wide 5 trivial trivial trivial trivial rfl (by omega) (sorts_ok _) (enters_of Try.func59 (by kernel_rfl) rfl) 61 #[.pointer (some ⟨c.ρ 4, 0, none⟩)] trivial (enters_of Try.func61 (by kernel_rfl) rfl) _ (Maps.size D0) (by rw [hsize, List.length_map]; unfold maxLen; omega) (by rw [hsize, List.length_map]; omega) _ hseq
  refine (callsIn_wide.1 cS).mono fun e w' h => ?_
  obtain ⟨v, ss, rfl, hS, hrow, _, hbel⟩ := h
  refine ⟨hbel, v, _, rfl, ⟨rfl, rfl⟩, ?_⟩
  have hE : ss.mergeSort (fun x y => decide (x ≤ y)) = sortI (W.map (·.1)) := mergeSort_of_perm_i (hS.trans hperm)
  have hL : ss.length = (sortI (W.map (·.1))).length := by rw [← hE]; exact (List.mergeSort_perm _ _).length_eq.symm
  rw [hE, hL] at hrow
  exact rep_ownsRow hB hbel hrow
theorem keysP_ok (P : PM) : Ok Try.prog 49 [] [(2, pendA P)] (.pair (.mp 2) .nul) (fun r h' => r = .fn (.func 60) .nul (.pair (.ptr 3 []) .nul) ∧ h' = [(3, .mp 2), (2, pendA P)]) := by
  refine Ok.of_vc tt_ok Try.func49 rfl rfl (by show 1 ≤ _; decide) 3 (hlt_ok (by rfl)) fun c0 => ?_
  repeat' (first | (refine SS_ ?_) | (done) | (refine Seq.lit (by rfl) (by rfl) LT2_ ?_) | (refine VC.litT (by rfl) LTR_ ?_) | (refine VC.litF (by rfl) LFA_ ?_) | (refine DD_ ?_) | (refine DSeq.lit2 (by rfl) (by rfl) (by rfl) LT2_ (by rfl) ?_) | ((refine retQ_ok (by rfl) [] nil_sub ⟨?_, rfl⟩); try rfl) | (refine Seq.litC (by rfl) (by rfl) (fun hb => ?_) (fun hb => ?_) <;> (fail_if_success (with_reducible have := litT_ hb)) <;> (fail_if_success (with_reducible have := litF_ hb)) <;> (try simp only [decide_eq_true_eq, decide_eq_false_iff_not, Bool.not_eq_true', Bool.not_eq_false', Bool.or_eq_true, Bool.or_eq_false_iff, Bool.and_eq_true, Bool.and_eq_false_iff] at hb) <;> (try (exfalso; first | omega | (cases hb; done)))) | (refine VC.cond (by rfl) (fun hb => ?_) (fun hb => ?_) <;> (fail_if_success (with_reducible have := litT_ hb)) <;> (fail_if_success (with_reducible have := litF_ hb)) <;> (try simp only [decide_eq_true_eq, decide_eq_false_iff_not, Bool.not_eq_true', Bool.not_eq_false', Bool.or_eq_true, Bool.or_eq_false_iff, Bool.and_eq_true, Bool.and_eq_false_iff] at hb) <;> (try (exfalso; first | omega | (cases hb; done)))) | (refine DSeq.litC2 (by rfl) (by rfl) (by rfl) (by rfl) (by rfl) (fun hb => ?_) (fun hb => ?_) <;> (fail_if_success (with_reducible have := litT_ hb)) <;> (fail_if_success (with_reducible have := litF_ hb)) <;> (try simp only [decide_eq_true_eq, decide_eq_false_iff_not, Bool.not_eq_true', Bool.not_eq_false', Bool.or_eq_true, Bool.or_eq_false_iff, Bool.and_eq_true, Bool.and_eq_false_iff] at hb) <;> (try (exfalso; first | omega | (cases hb; done)))))
  exact retQ_ok (by rfl) [(3, .mp 2), (2, pendA P)] (subL_ok ⟨rfl, rfl, trivial⟩) ⟨rfl, rfl⟩
theorem keysW_ok (W : WM) : Ok Try.prog 50 [] [(3, wornA W)] (.pair (.mp 3) .nul) (fun r h' => r = .fn (.func 61) .nul (.pair (.ptr 4 []) .nul) ∧ h' = [(4, .mp 3), (3, wornA W)]) := by
  refine Ok.of_vc tt_ok Try.func50 rfl rfl (by show 1 ≤ _; decide) 4 (hlt_ok (by rfl)) fun c0 => ?_
  repeat' (first | (refine SS_ ?_) | (done) | (refine Seq.lit (by rfl) (by rfl) LT2_ ?_) | (refine VC.litT (by rfl) LTR_ ?_) | (refine VC.litF (by rfl) LFA_ ?_) | (refine DD_ ?_) | (refine DSeq.lit2 (by rfl) (by rfl) (by rfl) LT2_ (by rfl) ?_) | ((refine retQ_ok (by rfl) [] nil_sub ⟨?_, rfl⟩); try rfl) | (refine Seq.litC (by rfl) (by rfl) (fun hb => ?_) (fun hb => ?_) <;> (fail_if_success (with_reducible have := litT_ hb)) <;> (fail_if_success (with_reducible have := litF_ hb)) <;> (try simp only [decide_eq_true_eq, decide_eq_false_iff_not, Bool.not_eq_true', Bool.not_eq_false', Bool.or_eq_true, Bool.or_eq_false_iff, Bool.and_eq_true, Bool.and_eq_false_iff] at hb) <;> (try (exfalso; first | omega | (cases hb; done)))) | (refine VC.cond (by rfl) (fun hb => ?_) (fun hb => ?_) <;> (fail_if_success (with_reducible have := litT_ hb)) <;> (fail_if_success (with_reducible have := litF_ hb)) <;> (try simp only [decide_eq_true_eq, decide_eq_false_iff_not, Bool.not_eq_true', Bool.not_eq_false', Bool.or_eq_true, Bool.or_eq_false_iff, Bool.and_eq_true, Bool.and_eq_false_iff] at hb) <;> (try (exfalso; first | omega | (cases hb; done)))) | (refine DSeq.litC2 (by rfl) (by rfl) (by rfl) (by rfl) (by rfl) (fun hb => ?_) (fun hb => ?_) <;> (fail_if_success (with_reducible have := litT_ hb)) <;> (fail_if_success (with_reducible have := litF_ hb)) <;> (try simp only [decide_eq_true_eq, decide_eq_false_iff_not, Bool.not_eq_true', Bool.not_eq_false', Bool.or_eq_true, Bool.or_eq_false_iff, Bool.and_eq_true, Bool.and_eq_false_iff] at hb) <;> (try (exfalso; first | omega | (cases hb; done)))))
  exact retQ_ok (by rfl) [(4, .mp 3), (3, wornA W)] (subL_ok ⟨rfl, rfl, trivial⟩) ⟨rfl, rfl⟩
section
variable {n : Nat} {B : List Bs} {P : PM} {W : WM} {off : Bool} {left : Int}
set_option maxRecDepth 10000 in
theorem pending_ok (hnd : (P.map (·.1)).Nodup) (hb : ∀ q ∈ P, i64B q.1) (hl : P.length ≤ 1048576) : Ok Try.prog 22 [] (dH n B P W off left) (.pair (.ptr 0 []) .nul) (fun r h' => r = intsT (sortI (P.map (·.1))) ∧ h' = dH n B P W off left) := by
  have c1 := keysP_ok P
  have c2 := sortedP_ok P hnd hb hl
  generalize sortI (P.map (·.1)) = L at *
  refine Ok.of_vc tt_ok Try.func22 rfl rfl (by show 1 ≤ _; decide) 4 (hlt_ok (by rfl)) fun c0 => ?_
  refine S_ ?_
  refine Seq.callo false [] [(4, 3)] (.fn (.func 60) .nul (.pair (.ptr 4 []) .nul)) ([(4, .mp 2), (2, pendA P)]) 5 (c1) Try.func49 GOk.nil subG.nil (by rfl) (by rfl) rfl rfl rfl rfl rfl (by rfl) rfl (by rfl) (by rfl) (by rfl) (by rfl) VW_ NI_ R_ (noFrL_ok NI_) BK_ ?_
  refine S_ ?_
  refine Seq.callo false [] [] (intsT L) ([(2, pendA P)]) 5 (c2) Try.func48 GOk.nil subG.nil (by rfl) (by rfl) rfl rfl rfl rfl rfl (by rfl) rfl (by rfl) (by rfl) (by rfl) (by rfl) VW_ NI_ R_ (noFrL_ok NI_) BK_ ?_
  refine S_ ?_
  exact retQ_ok (by rfl) (dH n B P W off left) (subL_ok ⟨rfl, rfl, rfl, rfl, trivial⟩) ⟨rfl, rfl⟩
set_option maxRecDepth 10000 in
theorem worn_ok (hnd : (W.map (·.1)).Nodup) (hb : ∀ q ∈ W, i64B q.1) (hl : W.length ≤ 1048576) : Ok Try.prog 23 [] (dH n B P W off left) (.pair (.ptr 0 []) .nul) (fun r h' => r = intsT (sortI (W.map (·.1))) ∧ h' = dH n B P W off left) := by
  have c1 := keysW_ok W
  have c2 := sortedW_ok W hnd hb hl
  generalize sortI (W.map (·.1)) = L at *
  refine Ok.of_vc tt_ok Try.func23 rfl rfl (by show 1 ≤ _; decide) 4 (hlt_ok (by rfl)) fun c0 => ?_
  refine S_ ?_
  refine Seq.callo false [] [(4, 4)] (.fn (.func 61) .nul (.pair (.ptr 4 []) .nul)) ([(4, .mp 3), (3, wornA W)]) 5 (c1) Try.func50 GOk.nil subG.nil (by rfl) (by rfl) rfl rfl rfl rfl rfl (by rfl) rfl (by rfl) (by rfl) (by rfl) (by rfl) VW_ NI_ R_ (noFrL_ok NI_) BK_ ?_
  refine S_ ?_
  refine Seq.callo false [] [] (intsT L) ([(3, wornA W)]) 5 (c2) Try.func48 GOk.nil subG.nil (by rfl) (by rfl) rfl rfl rfl rfl rfl (by rfl) rfl (by rfl) (by rfl) (by rfl) (by rfl) VW_ NI_ R_ (noFrL_ok NI_) BK_ ?_
  refine S_ ?_
  exact retQ_ok (by rfl) (dH n B P W off left) (subL_ok ⟨rfl, rfl, rfl, rfl, trivial⟩) ⟨rfl, rfl⟩
end
end Go.Proofs.Ytnehadphaakepaa
