
/- Budgets: what is begun. -/
import Derived.Test.YtkhlmicogdjmlaaRs
set_option linter.unusedSimpArgs false
set_option linter.unusedVariables false
namespace Go.Bg
open Go.Rt Go.Lx
theorem mk_cost {p q : Int} (hp : 0 ≤ p ∧ p ≤ 1000) (hq : 1 ≤ q ∧ q ≤ 1000) : mkErr p q = 0 ∧ isCost (mkV p q) = true := by
  have hk : Rt.absI p = p := if_neg (by omega)
  have hn : Rt.absI q = q := if_neg (by omega)
  have hg := gI_pos (x := p) (y := q) (.inr (by omega))
  have d1 := div_le (a := p) (g := gI p q) (by omega) hg
  have d2 := div_le (a := q) (g := gI p q) (by omega) hg
  have he : mkErr p q = 0 := by
    unfold mkErr
    rw [if_neg (by omega), hk, hn, if_neg (by omega)]
  exact ⟨he, cost_iff.2 ⟨mkV_valid (by omega) he, mkV_nn (by omega) (by omega) he⟩⟩
theorem costs_get {l : List Int} {f m : Int} {n k : Nat} (h : k < n) : (costs l f m n).getD k rz = costAt l f m k := by
  unfold costs
  rw [List.getD_eq_getElem?_getD, List.getElem?_map, List.getElem?_range h]; rfl
theorem owns_get {l : List Int} {m : Int} {n k : Nat} (h : k < n) : (owns l m n).getD k 0 = ownAt l m k := by
  unfold owns
  rw [List.getD_eq_getElem?_getD, List.getElem?_map, List.getElem?_range h]; rfl
theorem costAt_cost {l : List Int} {f m : Int} {i : Nat} (hm : 1 ≤ m ∧ m ≤ 1000) : isCost (costAt l f m i) = true := by
  have h1 := at_lt l (f + i) m (by omega)
  have h2 := at_lt l (f + i + 1) 3 (by decide)
  exact (mk_cost ⟨h1.1, by omega⟩ ⟨by omega, by omega⟩).2
theorem costs_cost {l : List Int} {f m : Int} {n : Nat} (hm : 1 ≤ m ∧ m ≤ 1000) : ∀ r ∈ costs l f m n, isCost r = true := fun r hr => by
  obtain ⟨j, hj, e⟩ := (mem_getD (d := rz)).1 hr
  rw [costs_len] at hj
  rw [← e, costs_get hj]
  exact costAt_cost hm
abbrev bgP (l : List Int) : List Rq := costs l 3 12 (1 + atI l 0 6).toNat
abbrev bgW (l : List Int) : List Int := owns l (1 + atI l 1 3) (1 + atI l 0 6).toNat
abbrev bgO (l : List Int) : List Rq := costs l 5 30 (1 + atI l 1 3).toNat
theorem begun_fine (l : List Int) : newE (bgP l) (bgW l) (bgO l) = 0 := by
  have h1 := at_lt l 0 6 (by decide)
  have h2 := at_lt l 1 3 (by decide)
  unfold newE
  rw [if_neg (by rw [costs_len, costs_len]; omega), if_neg]
  rintro (h | h | h | h)
  · rw [owns_len, costs_len] at h; exact h rfl
  · rw [List.any_eq_true] at h
    obtain ⟨x, hx, hd⟩ := h
    obtain ⟨j, hj, e⟩ := (mem_getD (d := 0)).1 hx
    rw [owns_len] at hj
    rw [owns_get hj] at e
    have h3 := at_lt l (2 + (j : Int)) (1 + atI l 1 3) (by omega)
    have h4 := of_decide_eq_true hd
    rw [costs_len] at h4
    have e : atI l (2 + (j : Int)) (1 + atI l 1 3) = x := e
    omega
  · rw [List.any_eq_true] at h
    obtain ⟨x, hx, hd⟩ := h
    rw [costs_cost (by decide) x hx] at hd; cases hd
  · rw [List.any_eq_true] at h
    obtain ⟨x, hx, hd⟩ := h
    rw [costs_cost (by decide) x hx] at hd; cases hd
/-- What New makes is well made. -/
theorem new_bok {P : List Rq} {W : List Int} {O : List Rq} (h : newE P W O = 0) : BOk (newB P W O) := by
  unfold newE at h
  by_cases h1 : 256 < P.length ∨ 16 < O.length
  · rw [if_pos h1] at h; cases h
  rw [if_neg h1] at h
  have hno : ¬ (W.length ≠ P.length ∨ (W.any fun x => decide (x < 0 ∨ (O.length : Int) ≤ x)) = true ∨ (P.any fun r => !isCost r) = true ∨ (O.any fun r => !isCost r) = true) := fun hh => by rw [if_pos hh] at h; cases h
  have hz : valid rz = true ∧ 0 ≤ rz.P := by decide
  have hac : ∀ l : List Rq, ¬ (l.any fun r => !isCost r) = true → ∀ x ∈ accs l, AOk x := fun l hl x hx => by
    unfold accs at hx
    obtain ⟨r, hr, rfl⟩ := List.mem_map.1 hx
    refine ⟨cost_iff.1 ?_, hz⟩
    cases hc : isCost r with
    | true => rfl
    | false => exact absurd (List.any_eq_true.2 ⟨r, hr, by rw [hc]; rfl⟩) hl
  refine ⟨?_, ?_, hac P fun hh => hno (.inr (.inr (.inl hh))), hac O fun hh => hno (.inr (.inr (.inr hh))), ⟨?_, fun x hx => ?_⟩, ?_⟩
  · show (accs P).length ≤ 256
    rw [accs_len]; omega
  · show (accs O).length ≤ 16
    rw [accs_len]; omega
  · show W.length = (accs P).length
    rw [accs_len]; exact Decidable.byContradiction fun hh => hno (.inl hh)
  · show 0 ≤ x ∧ x < (accs O).length
    rw [accs_len]
    refine Decidable.byContradiction fun hh => hno (.inr (.inl (List.any_eq_true.2 ⟨x, hx, decide_eq_true (by omega)⟩)))
  · show (List.replicate P.length false).length = (accs P).length
    rw [accs_len, List.length_replicate]
end Go.Bg
namespace Go.Proofs.Ytkhlmicogdjmlaa
open Go.V Go.RowKit Go.L Go.Lx Go.Rt Go.Bg
set_option maxRecDepth 10000
set_option maxHeartbeats 4000000
theorem cost_r64 {l : List Rq} (h : ∀ r ∈ l, isCost r = true) : ∀ r ∈ l, R64 r := fun r hr => valid_r64 (cost_iff.1 (h r hr)).1
theorem rnew_yes (P : List Rq) (W : List Int) (O : List Rq) (hP : P.length ≤ 1048576) (hW : W.length ≤ 1048576) (hO : O.length ≤ 1048576) (hrP : ∀ r ∈ P, R64 r) (hrO : ∀ r ∈ O, R64 r) (he : newE P W O = 0) :
    Ok Try.prog 13 [] [] (.pair (rlV P) (.pair (liV W) (.pair (rlV O) .nul))) (fun v h' => v = .tup (.pair (.ptr 0 []) (.pair (.int .i64 0) .nul)) ∧ h' = rH (newB P W O)) :=
  Ok.imp (rnew_ok P W O hP hW hO hrP hrO) fun r h' h => by
    rcases h with ⟨h0, _, _⟩ | ⟨_, h1, h2⟩
    · exact absurd he h0
    · exact ⟨r, Imp.refl _, h1, h2⟩
abbrev bg (l : List Int) : Bk := newB (bgP l) (bgW l) (bgO l)
theorem begun_ok (l : List Int) (hl : IOk l) : Ok Try.prog 16 [] [] (.pair (liV l) .nul) (fun v h' => v = .tup (.pair (.ptr 0 []) (.pair (.ptr 5 []) .nul)) ∧ h' = lH (bg l)) := by
  have h1 := at_lt l 0 6 (by decide)
  have h2 := at_lt l 1 3 (by decide)
  have z0 := begin_ok l hl
  have hP : (bgP l).length ≤ 1048576 := by rw [costs_len]; omega
  have hW : (bgW l).length ≤ 1048576 := by rw [owns_len]; omega
  have hO : (bgO l).length ≤ 1048576 := by rw [costs_len]; omega
  have rP := cost_r64 (costs_cost (l := l) (f := 3) (m := 12) (n := (1 + atI l 0 6).toNat) (by decide))
  have rO := cost_r64 (costs_cost (l := l) (f := 5) (m := 30) (n := (1 + atI l 1 3).toNat) (by decide))
  have z1 := new_yes (bgP l) (bgW l) (bgO l) rP rO (begun_fine l)
  have z2 := rnew_yes (bgP l) (bgW l) (bgO l) hP hW hO rP rO (begun_fine l)
  clear h1 h2 rP rO
  unfold bg
  generalize hb : newB (bgP l) (bgW l) (bgO l) = b at *
  have z0 : Ok Try.prog 9 [] [] (.pair (liV l) .nul) (fun r h' => r = .tup (.pair (rlV (bgP l)) (.pair (liV (bgW l)) (.pair (rlV (bgO l)) .nul))) ∧ h' = []) := z0
  generalize bgP l = P at *
  generalize bgW l = W at *
  generalize bgO l = O at *
  refine Ok.of_vcC tt_ok Try.func16 rfl rfl (by show 1 ≤ _; decide) 0 (hlt_ok (by rfl)) fun c0 => ?_
  repeat' (first | (refine SS_ ?_) | (refine Seq.callp false (z0) Try.func9 GOk.nil subG.nil (by rfl) (by rfl) rfl rfl rfl rfl rfl (by rfl) rfl VW_ NI_ NI_ FR_ ?_) | (refine Seq.callo false [] [] (.tup (.pair (.ptr 0 []) (.pair (.int .i64 0) .nul))) (bH b) 5 (z1) Try.func12 GOk.nil subG.nil (by rfl) (by rfl) rfl rfl rfl rfl rfl (by rfl) rfl (by rfl) (by rfl) (by rfl) (by rfl) VW_ NI_ R_ (noFrL_ok NI_) BK_ ?_) | (refine Seq.callo false [] [(5, 0), (6, 1), (7, 2), (8, 3), (9, 4), (10, 5), (11, 6)] (.tup (.pair (.ptr 5 []) (.pair (.int .i64 0) .nul))) (rcH b) 12 (z2) Try.func13 GOk.nil subG.nil (by rfl) (by rfl) rfl rfl rfl rfl rfl (by rfl) rfl (by rfl) (by rfl) (by rfl) (by rfl) VW_ NI_ R_ (noFrL_ok NI_) BK_ ?_) | (refine Seq.lit (by rfl) (by rfl) LT2_ ?_) | (refine VC.litT (by rfl) LTR_ ?_) | (refine VC.litF (by rfl) LFA_ ?_) | (refine DD_ ?_) | (refine DSeq.lit2 (by rfl) (by rfl) (by rfl) LT2_ (by rfl) ?_) | ((refine retQ_ok (by rfl) [] nil_sub ⟨?_, rfl⟩); try rfl) | (refine Seq.litC (by rfl) (by rfl) (fun hb => ?_) (fun hb => ?_) <;> (fail_if_success (with_reducible have := litT_ hb)) <;> (fail_if_success (with_reducible have := litF_ hb)) <;> (try simp only [decide_eq_true_eq, decide_eq_false_iff_not, Bool.not_eq_true', Bool.not_eq_false', Bool.or_eq_true, Bool.or_eq_false_iff, Bool.and_eq_true, Bool.and_eq_false_iff] at hb) <;> (try (exfalso; first | omega | (cases hb; done)))) | (refine VC.cond (by rfl) (fun hb => ?_) (fun hb => ?_) <;> (fail_if_success (with_reducible have := litT_ hb)) <;> (fail_if_success (with_reducible have := litF_ hb)) <;> (try simp only [decide_eq_true_eq, decide_eq_false_iff_not, Bool.not_eq_true', Bool.not_eq_false', Bool.or_eq_true, Bool.or_eq_false_iff, Bool.and_eq_true, Bool.and_eq_false_iff] at hb) <;> (try (exfalso; first | omega | (cases hb; done)))) | (refine DSeq.litC2 (by rfl) (by rfl) (by rfl) (by rfl) (by rfl) (fun hb => ?_) (fun hb => ?_) <;> (fail_if_success (with_reducible have := litT_ hb)) <;> (fail_if_success (with_reducible have := litF_ hb)) <;> (try simp only [decide_eq_true_eq, decide_eq_false_iff_not, Bool.not_eq_true', Bool.not_eq_false', Bool.or_eq_true, Bool.or_eq_false_iff, Bool.and_eq_true, Bool.and_eq_false_iff] at hb) <;> (try (exfalso; first | omega | (cases hb; done)))))
  (refine retC_mk ([(2, .ptr 0 []), (3, .ptr 5 [])]) (lH b) 12 (Sim.less [] (by rfl) R_ R_) (retQ_ok (by rfl) (lH b) (fun i av h => h) ⟨?_, ?_⟩)) <;> rfl
end Go.Proofs.Ytkhlmicogdjmlaa
