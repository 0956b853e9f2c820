/- Releases: check, Weight. -/
import Derived.Test.YtdbebdjnpckfdaaDoorQl
set_option linter.unusedSimpArgs false
set_option linter.unusedVariables false
namespace Go.Rl
open Go.V Go.Lx
theorem weightE_chk {t : Tab} {f k : Int} {l : List Int} (h : checkE t f k ≠ 0) : weightE t f k l = checkE t f k ∧ weightL t f k l = [] := by
  have e : weightE t f k l = checkE t f k := by unfold weightE; rw [if_pos h]
  exact ⟨e, by unfold weightL; rw [e, if_neg h]⟩
theorem weightE_five {t : Tab} {f k : Int} {l : List Int} (h : checkE t f k = 0) (h2 : (l.length : Int) ≠ t.S.getD f.toNat 0 ∨ badL k l = true) : weightE t f k l = 5 ∧ weightL t f k l = [] := by
  have e : weightE t f k l = 5 := by unfold weightE; rw [if_neg (fun hx => hx h), if_pos h2]
  exact ⟨e, by unfold weightL; rw [e, if_neg (by decide)]⟩
theorem weightE_fine {t : Tab} {f k : Int} {l : List Int} (h : checkE t f k = 0) (h1 : (l.length : Int) = t.S.getD f.toNat 0) (h2 : badL k l = false) : weightE t f k l = 0 ∧ weightL t f k l = (List.range l.length).map (wOf t.R f k l) := by
  have e : weightE t f k l = 0 := by unfold weightE; rw [if_neg (fun hx => hx h), if_neg (by rw [h2]; rintro (hx | hx); exact hx h1; cases hx)]
  exact ⟨e, by unfold weightL; rw [e, if_pos rfl]⟩
theorem checkE_zero {t : Tab} {f k : Int} : checkE t f k = 0 ↔ okE t = 0 ∧ (0 ≤ f ∧ f < t.S.length) ∧ 1 ≤ k ∧ k ≤ 12 := by
  unfold checkE
  constructor
  · intro h
    by_cases h1 : okE t ≠ 0
    · rw [if_pos h1] at h; exact absurd h h1
    · rw [if_neg h1] at h
      by_cases h2 : f < 0 ∨ (t.S.length : Int) ≤ f
      · rw [if_pos h2] at h; cases h
      · rw [if_neg h2] at h
        by_cases h3 : k < 1 ∨ 12 < k
        · rw [if_pos h3] at h; cases h
        · exact ⟨by simpa using h1, by omega, by omega⟩
  · rintro ⟨h1, h2, h3⟩
    rw [if_neg (by simpa using h1), if_neg (by omega), if_neg (by omega)]
theorem wOf_get {R : List Row} {f k : Int} {l : List Int} {v : Nat} (hk : 1 ≤ k ∧ k ≤ 12) (hl : 0 ≤ l.getD v 0 ∧ l.getD v 0 ≤ most k) : wOf R f k l v = (wts (min (most k) (mGet (manyTo R f.toNat R.length) v)) (most k) k).getD (l.getD v 0).toNat 0 := by
  rw [many_get, wts_get (by omega)]
  unfold wOf cnt
  rw [show (((l.getD v 0).toNat : Nat) : Int) = l.getD v 0 by omega]
end Go.Rl
namespace Go.Proofs.YtdbebdjnpckfdaaDoor
open Go.V Go.RowKit Go.L Go.Lx Go.Rl
set_option maxRecDepth 10000
set_option maxHeartbeats 4000000
theorem rcheck_ok (S : List Int) (R : List Row) (f k : Int) (hS : S.length ≤ 4611686018427387904) (hR : R.length ≤ 4611686018427387904) (hV : ∀ k, (R.getD k rowZ).V.length ≤ 4611686018427387904) : Ok Tryd.prog 28 [] [] (.pair (tabV S R) (.pair (.int .i64 f) (.pair (.int .i64 k) .nul))) (fun r h' => r = .int .i64 (checkE ⟨S, R⟩ f k) ∧ h' = []) := by
  have c1 := valid_ok S R hS hR hV
  have hE : checkE ⟨S, R⟩ f k = if okE ⟨S, R⟩ ≠ 0 then okE ⟨S, R⟩ else if f < 0 ∨ (S.length : Int) ≤ f then 6 else if k < 1 ∨ 12 < k then 5 else 0 := rfl
  generalize checkE ⟨S, R⟩ f k = X at *
  generalize okE ⟨S, R⟩ = E at *
  by_cases h0 : E ≠ 0
  · rw [if_pos h0] at hE
    refine Ok.of_vcC tt_ok Tryd.func28 rfl rfl (by show 3 ≤ _; decide) 0 (hlt_ok (by rfl)) fun c0 => ?_
    repeat' (first | (refine SS_ ?_) | (refine Seq.callp false (c1) Tryd.func41 GOk.nil subG.nil (by rfl) (by rfl) rfl rfl rfl rfl rfl (by rfl) rfl VW_ NI_ NI_ FR_ ?_) | (refine VC.litT (by rfl) LTR_ ?_) | fail)
    all_goals (refine retC_mk ([(6, .int .i64 X)]) ([]) 1 (Sim.less [] (by rfl) R_ R_) (retQ_ok (by rfl) ([]) (fun i av h => h) ⟨?_, ?_⟩)) <;> first | rfl | exact hE.symm
  · rw [if_neg h0] at hE
    by_cases h1 : f < 0 ∨ (S.length : Int) ≤ f
    · rw [if_pos h1] at hE
      refine Ok.of_vcC tt_ok Tryd.func28 rfl rfl (by show 3 ≤ _; decide) 0 (hlt_ok (by rfl)) fun c0 => ?_
      repeat' (first | (refine SS_ ?_) | (refine Seq.callp false (c1) Tryd.func41 GOk.nil subG.nil (by rfl) (by rfl) rfl rfl rfl rfl rfl (by rfl) rfl VW_ NI_ NI_ FR_ ?_) | (refine VC.litT (by rfl) LTR_ ?_) | (refine VC.litF (by rfl) LFA_ ?_) | (refine Seq.litC (by rfl) (by rfl) (fun hb => ?_) (fun hb => ?_) <;> (fail_if_success (with_reducible have := litT_ hb)) <;> (fail_if_success (with_reducible have := litF_ hb)) <;> (try simp only [HB_] at hb) <;> (try (exfalso; first | omega | (cases hb; done)))) | fail)
      all_goals (refine retC_mk ([(6, .int .i64 6)]) ([]) 1 (Sim.less [] (by rfl) R_ R_) (retQ_ok (by rfl) ([]) (fun i av h => h) ⟨?_, ?_⟩)) <;> first | rfl | (rw [hE])
    · rw [if_neg h1] at hE
      by_cases h2 : k < 1 ∨ 12 < k
      · rw [if_pos h2] at hE
        refine Ok.of_vcC tt_ok Tryd.func28 rfl rfl (by show 3 ≤ _; decide) 0 (hlt_ok (by rfl)) fun c0 => ?_
        repeat' (first | (refine SS_ ?_) | (refine Seq.callp false (c1) Tryd.func41 GOk.nil subG.nil (by rfl) (by rfl) rfl rfl rfl rfl rfl (by rfl) rfl VW_ NI_ NI_ FR_ ?_) | (refine Seq.lit (by rfl) (by rfl) LT2_ ?_) | (refine VC.litT (by rfl) LTR_ ?_) | (refine VC.litF (by rfl) LFA_ ?_) | (refine Seq.litC (by rfl) (by rfl) (fun hb => ?_) (fun hb => ?_) <;> (fail_if_success (with_reducible have := litT_ hb)) <;> (fail_if_success (with_reducible have := litF_ hb)) <;> (try simp only [HB_] at hb) <;> (try (exfalso; first | omega | (cases hb; done)))) | fail)
        all_goals (refine retC_mk ([(6, .int .i64 5)]) ([]) 1 (Sim.less [] (by rfl) R_ R_) (retQ_ok (by rfl) ([]) (fun i av h => h) ⟨?_, ?_⟩)) <;> first | rfl | (rw [hE])
      · rw [if_neg h2] at hE
        refine Ok.of_vcC tt_ok Tryd.func28 rfl rfl (by show 3 ≤ _; decide) 0 (hlt_ok (by rfl)) fun c0 => ?_
        repeat' (first | (refine SS_ ?_) | (refine Seq.callp false (c1) Tryd.func41 GOk.nil subG.nil (by rfl) (by rfl) rfl rfl rfl rfl rfl (by rfl) rfl VW_ NI_ NI_ FR_ ?_) | (refine Seq.lit (by rfl) (by rfl) LT2_ ?_) | (refine VC.litF (by rfl) LFA_ ?_) | fail)
        all_goals (refine retC_mk ([(6, .int .i64 0)]) ([]) 1 (Sim.less [] (by rfl) R_ R_) (retQ_ok (by rfl) ([]) (fun i av h => h) ⟨?_, ?_⟩)) <;> first | rfl | (rw [hE])
abbrev wMF : AV := .fn (.func 33) .nul (.pair (.ptr 0 []) .nul)
theorem wm_ok (x m : Int) : Ok Tryd.prog 33 [] [(0, .int .i64 m)] (.pair (.int .i64 x) (.pair (.ptr 0 []) .nul)) (fun v h' => v = .bool (decide (x < 0 ∨ m < x)) ∧ h' = [(0, .int .i64 m)]) := by
  by_cases h : x < 0
  · rw [decide_eq_true (Or.inl h)]
    refine Ok.of_vcC tt_ok Tryd.func33 rfl rfl (by show 2 ≤ _; decide) 1 (hlt_ok (by rfl)) fun c0 => ?_
    repeat' (first | (refine SS_ ?_) | (refine Seq.lit (by rfl) (by rfl) LT2_ ?_) | fail)
    (refine retC_mk ([(3, .bool true)]) ([(0, .int .i64 m)]) 1 (Sim.less [] (by rfl) R_ R_) (retQ_ok (by rfl) ([(0, .int .i64 m)]) (fun i av h => h) ⟨?_, ?_⟩)) <;> rfl
  · rw [show decide (x < 0 ∨ m < x) = decide (m < x) by simp [h]]
    refine Ok.of_vcC tt_ok Tryd.func33 rfl rfl (by show 2 ≤ _; decide) 1 (hlt_ok (by rfl)) fun c0 => ?_
    repeat' (first | (refine SS_ ?_) | (refine Seq.lit (by rfl) (by rfl) LT2_ ?_) | fail)
    (refine retC_mk ([(3, .bool (decide (m < x)))]) ([(0, .int .i64 m)]) 1 (Sim.less [] (by rfl) R_ R_) (retQ_ok (by rfl) ([(0, .int .i64 m)]) (fun i av h => h) ⟨?_, ?_⟩)) <;> rfl
theorem idxM_ok (l : List Int) (hl : l.length ≤ 9223372036854775807) (m : Int) : Ok Tryd.prog 39 [] [(0, .int .i64 m)] (.pair (liV l) (.pair wMF .nul)) (fun r h' => r = .int .i64 (idx (fun x => decide (x < 0 ∨ m < x)) 0 l) ∧ h' = [(0, .int .i64 m)]) := by
  refine Ok.of_vcC tt_ok Tryd.func39 rfl rfl (by show 2 ≤ _; decide) 1 (hlt_ok (by rfl)) fun c0 => ?_
  repeat' (first | (refine SS_ ?_) | fail)
  refine VC.loop (fun k : Nat => ⟨[(8, .int .i64 (k : Nat)), (7, .int .i64 l.length), (1, wMF), (0, liV l)], [(0, .int .i64 m)], [], 1⟩) (fun k => k ≤ l.length ∧ idx (fun x => decide (x < 0 ∨ m < x)) 0 l = idx (fun x => decide (x < 0 ∨ m < x)) k (l.drop k)) (fun k => l.length - k) 0 ⟨by omega, rfl⟩ (Sim.less [] (by rfl) R_ R_) fun k hk => ?_
  obtain ⟨hk, hi⟩ := hk
  by_cases hkl : k < l.length
  · have hget : l.getD ((k : Nat) : Int).toNat 0 = l.getD k 0 := by rw [Int.toNat_natCast]
    rw [idx_step (d := 0) hkl] at hi
    have c1 := wm_ok (l.getD k 0) m
    rw [← hget] at c1 hi
    generalize hv : l.getD ((k : Nat) : Int).toNat 0 = v at *
    generalize hqq : decide (v < 0 ∨ m < v) = qq at *
    repeat' (first | (refine SS_ ?_) | (refine Seq.callo false [] [] (.bool qq) ([(0, .int .i64 m)]) 1 (c1) Tryd.func33 GOk.nil subG.nil (by rfl) (by rfl) rfl rfl rfl rfl rfl (by rfl) rfl (by rfl) (by rfl) (by rfl) (by rfl) VW_ NI_ R_ (noFrL_ok NI_) BK_ ?_) | (refine VC.litT (by rfl) LTR_ ?_) | (refine VC.cond (by rfl) (fun hb => ?_) (fun hb => ?_) <;> (fail_if_success (with_reducible have := litT_ hb)) <;> (fail_if_success (with_reducible have := litF_ hb)) <;> (try simp only [HB_] at hb) <;> (try (exfalso; first | omega | (cases hb; done)))) | fail)
    · rw [if_pos (by simpa using hb)] at hi
      rw [hi]
      (refine retC_mk ([(4, .int .i64 (k : Nat))]) ([(0, .int .i64 m)]) 1 (Sim.less [] (by rfl) R_ R_) (retQ_ok (by rfl) ([(0, .int .i64 m)]) (fun i av h => h) ⟨?_, ?_⟩)) <;> rfl
    · rw [if_neg (by simpa using hb)] at hi
      refine ⟨k + 1, ⟨by omega, hi⟩, by omega, ?_⟩
      exact (Sim.less [] (by rfl) R_ R_)
  · repeat' (first | (refine SS_ ?_) | (refine VC.litF (by rfl) LFA_ ?_) | fail)
    rw [List.drop_of_length_le (by omega)] at hi
    rw [hi]
    (refine retC_mk ([(4, .int .i64 (-1))]) ([(0, .int .i64 m)]) 1 (Sim.less [] (by rfl) R_ R_) (retQ_ok (by rfl) ([(0, .int .i64 m)]) (fun i av h => h) ⟨?_, ?_⟩)) <;> rfl
theorem conM_ok (l : List Int) (hl : l.length ≤ 9223372036854775807) (m : Int) : Ok Tryd.prog 21 [] [(0, .int .i64 m)] (.pair (liV l) (.pair wMF .nul)) (fun r h' => r = .bool (l.any fun x => decide (x < 0 ∨ m < x)) ∧ h' = [(0, .int .i64 m)]) := by
  have c1 := idxM_ok l hl m
  rw [show (l.any fun x => decide (x < 0 ∨ m < x)) = decide (0 ≤ idx (fun x => decide (x < 0 ∨ m < x)) 0 l) by rw [idx_any]]
  generalize idx (fun x => decide (x < 0 ∨ m < x)) 0 l = i at *
  refine Ok.of_vcC tt_ok Tryd.func21 rfl rfl (by show 2 ≤ _; decide) 1 (hlt_ok (by rfl)) fun c0 => ?_
  repeat' (first | (refine SS_ ?_) | (refine Seq.callo false [] [] (.int .i64 i) ([(0, .int .i64 m)]) 1 (c1) Tryd.func39 GOk.nil subG.nil (by rfl) (by rfl) rfl rfl rfl rfl rfl (by rfl) rfl (by rfl) (by rfl) (by rfl) (by rfl) VW_ NI_ R_ (noFrL_ok NI_) BK_ ?_) | fail)
  (refine retC_mk ([(4, .bool (decide (0 ≤ i)))]) ([(0, .int .i64 m)]) 1 (Sim.less [] (by rfl) R_ R_) (retQ_ok (by rfl) ([(0, .int .i64 m)]) (fun i av h => h) ⟨?_, ?_⟩)) <;> rfl
theorem rweight_chk (S : List Int) (R : List Row) (f k : Int) (l : List Int) (hS : S.length ≤ 4611686018427387904) (hR : R.length ≤ 4611686018427387904) (hV : ∀ k, (R.getD k rowZ).V.length ≤ 4611686018427387904) (h : checkE ⟨S, R⟩ f k ≠ 0) : Ok Tryd.prog 14 [] [] (.pair (tabV S R) (.pair (.int .i64 f) (.pair (.int .i64 k) (.pair (liV l) .nul)))) (fun r h' => r = .tup (.pair (liV []) (.pair (.int .i64 (checkE ⟨S, R⟩ f k)) .nul)) ∧ h' = []) := by
  have c1 := rcheck_ok S R f k hS hR hV
  generalize checkE ⟨S, R⟩ f k = E at *
  refine Ok.of_vcC tt_ok Tryd.func14 rfl rfl (by show 4 ≤ _; decide) 0 (hlt_ok (by rfl)) fun c0 => ?_
  repeat' (first | (refine SS_ ?_) | (refine Seq.callp false (c1) Tryd.func28 GOk.nil subG.nil (by rfl) (by rfl) rfl rfl rfl rfl rfl (by rfl) rfl VW_ NI_ NI_ FR_ ?_) | (refine VC.litT (by rfl) LTR_ ?_) | fail)
  refine retC_conv' (Sim.impT' 8 (by rfl) (Imp.nil (fr := false) (sz := 1) (f := fun i => .int .i64 (([] : List Int).getD i 0)))) ?_
  (refine retC_mk ([(8, liV []), (9, .int .i64 E)]) ([]) 1 (Sim.less [] (by rfl) R_ R_) (retQ_ok (by rfl) ([]) (fun i av h => h) ⟨?_, ?_⟩)) <;> rfl
theorem rweight_five (S : List Int) (R : List Row) (f k : Int) (l : List Int) (hl : l.length ≤ 4611686018427387904) (hS : S.length ≤ 4611686018427387904) (hR : R.length ≤ 4611686018427387904) (hV : ∀ k, (R.getD k rowZ).V.length ≤ 4611686018427387904) (h : checkE ⟨S, R⟩ f k = 0) (h2 : (l.length : Int) ≠ S.getD f.toNat 0 ∨ badL k l = true) : Ok Tryd.prog 14 [] [] (.pair (tabV S R) (.pair (.int .i64 f) (.pair (.int .i64 k) (.pair (liV l) .nul)))) (fun r h' => r = .tup (.pair (liV []) (.pair (.int .i64 5) .nul)) ∧ h' = []) := by
  have c1 := rcheck_ok S R f k hS hR hV
  rw [h] at c1
  obtain ⟨hok, hf, hk⟩ := checkE_zero.1 h
  have hf : 0 ≤ f ∧ f < S.length := hf
  obtain ⟨z1, z2, z3, z4, z5⟩ := okE_zero.1 hok
  have c2 := counts_ok S R f k z2 (fun i hi => (badR_false.1 (z4 i hi)).1.2.2) hf hk
  have c3 := conM_ok l (by omega) (most k)
  have hb3 : (l.any fun x => decide (x < 0 ∨ most k < x)) = badL k l := rfl
  rw [hb3] at c3
  generalize badL k l = bl at *
  generalize manyTo R f.toNat R.length = M at *
  refine Ok.of_vcC tt_ok Tryd.func14 rfl rfl (by show 4 ≤ _; decide) 0 (hlt_ok (by rfl)) fun c0 => ?_
  repeat' (first | (refine SS_ ?_) | (refine Seq.callp false (c1) Tryd.func28 GOk.nil subG.nil (by rfl) (by rfl) rfl rfl rfl rfl rfl (by rfl) rfl VW_ NI_ NI_ FR_ ?_) | (refine Seq.callo false [] [(1, 0), (2, 1), (3, 2)] (.tup (.pair (.int .i64 (most k)) (.pair (cntF 1 2) .nul))) ([(1, .int .i64 (most k)), (2, .mp 3), (3, cntA M)]) 4 (c2) Tryd.func31 GOk.nil subG.nil (by rfl) (by rfl) rfl rfl rfl rfl rfl (by rfl) rfl (by rfl) (by rfl) (by rfl) (by rfl) VW_ NI_ R_ (noFrL_ok NI_) BK_ ?_) | (refine Seq.callo false [(0, 4)] [(4, 0)] (.bool bl) ([(4, .int .i64 (most k))]) 5 (c3) Tryd.func21 GOk.nil subG.nil (by rfl) (by rfl) rfl rfl rfl rfl rfl (by rfl) rfl (by rfl) (by rfl) (by rfl) (by rfl) VW_ NI_ R_ (noFrL_ok NI_) BK_ ?_) | (refine VC.litT (by rfl) LTR_ ?_) | (refine VC.litF (by rfl) LFA_ ?_) | (refine Seq.litC (by rfl) (by rfl) (fun hb => ?_) (fun hb => ?_) <;> (fail_if_success (with_reducible have := litT_ hb)) <;> (fail_if_success (with_reducible have := litF_ hb)) <;> (try simp only [HB_] at hb) <;> (try (exfalso; first | omega | (cases hb; done)))) | (refine VC.cond (by rfl) (fun hb => ?_) (fun hb => ?_) <;> (fail_if_success (with_reducible have := litT_ hb)) <;> (fail_if_success (with_reducible have := litF_ hb)) <;> (try simp only [HB_] at hb) <;> (try (exfalso; first | omega | (cases hb; done)))) | fail)
  · refine retC_conv' (Sim.impT' 8 (by rfl) (Imp.nil (fr := false) (sz := 1) (f := fun i => .int .i64 (([] : List Int).getD i 0)))) ?_
    (refine retC_mk ([(8, liV []), (9, .int .i64 5)]) ([]) 5 (Sim.less [] (by rfl) R_ R_) (retQ_ok (by rfl) ([]) (fun i av h => h) ⟨?_, ?_⟩)) <;> rfl
  · refine retC_conv' (Sim.impT' 8 (by rfl) (Imp.nil (fr := false) (sz := 1) (f := fun i => .int .i64 (([] : List Int).getD i 0)))) ?_
    (refine retC_mk ([(8, liV []), (9, .int .i64 5)]) ([]) 5 (Sim.less [] (by rfl) R_ R_) (retQ_ok (by rfl) ([]) (fun i av h => h) ⟨?_, ?_⟩)) <;> rfl
  · exfalso
    rcases h2 with h2 | h2
    · exact h2 (by omega)
    · subst h2
      contradiction
theorem rweight_fine (S : List Int) (R : List Row) (f k : Int) (l : List Int) (hl : l.length ≤ 4611686018427387904) (h : checkE ⟨S, R⟩ f k = 0) (h1 : (l.length : Int) = S.getD f.toNat 0) (h2 : badL k l = false) : Ok Tryd.prog 14 [] [] (.pair (tabV S R) (.pair (.int .i64 f) (.pair (.int .i64 k) (.pair (liV l) .nul)))) (fun r h' => r = .tup (.pair (liV ((List.range l.length).map (wOf R f k l))) (.pair (.int .i64 0) .nul)) ∧ h' = []) := by
  obtain ⟨hok, hf, hk⟩ := checkE_zero.1 h
  have hf : 0 ≤ f ∧ f < S.length := hf
  obtain ⟨z1, z2, z3, z4, z5⟩ := okE_zero.1 hok
  have z1 : S.length ≤ 8 := z1
  have z2 : R.length ≤ 64 := z2
  have hVl := fun i (hi : i < R.length) => (badR_false.1 (z4 i hi)).1.2.2
  have c1 := rcheck_ok S R f k (by omega) (by omega) (fun i => by
    rcases Nat.lt_or_ge i R.length with hi | hi
    · have : (R.getD i rowZ).V.length = S.length := hVl i hi
      omega
    · rw [List.getD_eq_getElem?_getD, List.getElem?_eq_none hi]; exact Nat.zero_le _)
  rw [h] at c1
  have c2 := counts_ok S R f k z2 hVl hf hk
  have c3 := conM_ok l (by omega) (most k)
  have hb3 : (l.any fun x => decide (x < 0 ∨ most k < x)) = badL k l := rfl
  rw [hb3, h2] at c3
  obtain ⟨hfit, hm2⟩ := most_fits hk
  have hm3 := hfit.fm
  have hS12 : ∀ i, i < S.length → S.getD i 0 ≤ 12 := fun i hi => by
    have := (any_false (d := 0)).1 z3 i hi
    have := of_decide_eq_false this
    have h9 : ¬ (S.getD i 0 < 1 ∨ 12 < S.getD i 0) := this
    omega
  have hlb : ∀ v, v < l.length → 0 ≤ l.getD v 0 ∧ l.getD v 0 ≤ most k := fun v hv => by
    have := of_decide_eq_false ((any_false (d := 0)).1 h2 v hv)
    omega
  have hg : ∀ v, v < l.length → ((List.range l.length).map (wOf R f k l)).getD v 0 = (wts (min (most k) (mGet (manyTo R f.toNat R.length) v)) (most k) k).getD (l.getD v 0).toNat 0 := fun v hv => by
    rw [List.getD_eq_getElem?_getD, List.getElem?_map, List.getElem?_range hv]
    exact wOf_get hk (hlb v hv)
  have hmc : ∀ v : Int, 0 ≤ mGet (manyTo R f.toNat R.length) v := fun v => by rw [many_get]; exact Int.natCast_nonneg _
  have hWl : ((List.range l.length).map (wOf R f k l)).length = l.length := by rw [List.length_map, List.length_range]
  have h12 : l.length ≤ 12 := by have := hS12 f.toNat (by omega); omega
  have c4 := fun c (hc : 0 ≤ c ∧ c ≤ most k) => weights_yes c (most k) k hfit hc
  generalize (List.range l.length).map (wOf R f k l) = W at *
  generalize manyTo R f.toNat R.length = M at *
  have c5 := fun v => counts1_ok (most k) v M
  clear hVl z3 z4 z5 hok h2 hb3 h
  refine Ok.of_vcC tt_ok Tryd.func14 rfl rfl (by show 4 ≤ _; decide) 0 (hlt_ok (by rfl)) fun c0 => ?_
  repeat' (first | (refine SS_ ?_) | (refine Seq.callp false (c1) Tryd.func28 GOk.nil subG.nil (by rfl) (by rfl) rfl rfl rfl rfl rfl (by rfl) rfl VW_ NI_ NI_ FR_ ?_) | (refine Seq.callo false [] [(1, 0), (2, 1), (3, 2)] (.tup (.pair (.int .i64 (most k)) (.pair (cntF 1 2) .nul))) ([(1, .int .i64 (most k)), (2, .mp 3), (3, cntA M)]) 4 (c2) Tryd.func31 GOk.nil subG.nil (by rfl) (by rfl) rfl rfl rfl rfl rfl (by rfl) rfl (by rfl) (by rfl) (by rfl) (by rfl) VW_ NI_ R_ (noFrL_ok NI_) BK_ ?_) | (refine Seq.callo false [(0, 4)] [(4, 0)] (.bool false) ([(4, .int .i64 (most k))]) 5 (c3) Tryd.func21 GOk.nil subG.nil (by rfl) (by rfl) rfl rfl rfl rfl rfl (by rfl) rfl (by rfl) (by rfl) (by rfl) (by rfl) VW_ NI_ R_ (noFrL_ok NI_) BK_ ?_) | (refine Seq.lit (by rfl) (by rfl) LT2_ ?_) | (refine VC.litF (by rfl) LFA_ ?_) | fail)
  refine VC.conv (Sim.ghost 13 1 (fun i => .int .i64 (([] : List Int).getD i 0)) (by rfl) (.inl rfl)) ?_
  refine VC.loop (fun v : Nat => ⟨[(47, .int .i64 (v : Nat)), (46, .int .i64 l.length), (45, liV l), (13, .sl 5 [] 1 0 (W.take v).length), (12, cntF 1 2), (11, .ptr 4 []), (2, .int .i64 k)], [(5, liO (W.take v)), (4, .int .i64 (most k)), (1, .int .i64 (most k)), (2, .mp 3), (3, cntA M)], [], 6⟩) (fun v => v ≤ l.length) (fun v => l.length - v) 0 (by omega) (by
    (refine Sim.less [] (by rfl) ?_ ?_ <;> (repeat' (first | (exact EnvLe.nil) | (exact HeapLe.nil) | (with_reducible apply EnvLe.cons) | (with_reducible apply HeapLe.cons) | ((with_reducible refine RelA.int ?_; first | (refine Keep.mk ?_; first | with_reducible rfl | omega | decide) | skip)) | (exact rfl) | (exact ⟨rfl, rfl⟩) | ((with_reducible refine RelA.rsl ?_; intro i hi)) | (with_reducible refine RelA.pair ?_ ?_) | ((refine RelA.arr ?_; intro i hi)) | (refine RelA.fn ?_ ?_) | (exact NoId.self (by first | ((repeat' (first | exact trivial | exact rfl | refine NoFr.bif ?_ ?_ | refine NoId.bif ?_ ?_ | refine AllFr.bif ?_ ?_ | (intro i hi) | (refine ⟨?_, ?_⟩) | (intro e; cases e; done))); done) | fail)) | fail)) <;> (try with_reducible refine Keep.mk ?_))
    all_goals rfl) fun v hv => ?_
  by_cases hvl : v < l.length
  · have hTl : (W.take v).length = v := by rw [List.length_take]; omega
    have hts : W.take (v + 1) = W.take v ++ [W.getD v 0] := take_snoc (by omega)
    have hko : l.getD ((v : Nat) : Int).toNat 0 = l.getD v 0 := by rw [Int.toNat_natCast]
    have hlb := hlb v hvl
    have hg := hg v hvl
    have hmc := hmc v
    have c5 := c5 v
    have c4 := c4 (min (most k) (mGet M v)) (by omega)
    have hwl := wts_len (min (most k) (mGet M v)) (most k) k
    rw [← hko] at hlb hg
    generalize wts (min (most k) (mGet M v)) (most k) k = Z at *
    generalize hT : W.take (v + 1) = T2 at *
    generalize W.take v = T at *
    repeat' (first | (refine SS_ ?_) | (refine VC.drawm (id := 11) [(0, 0), (1, 0), (2, 3), (3, 0), (4, 0), (5, 31), (6, 63), (7, 127), (8, 127), (9, 255)] [10] (by rfl) (by kernel_rfl) (by rfl) ?_) | (refine DSeq.callr false [(0, 1), (1, 2), (2, 3)] [(1, 0), (2, 1), (3, 2)] (.int .i64 (min (most k) (mGet M v))) ([]) ([(1, .int .i64 (most k)), (2, .mp 3), (3, cntA M)]) 6 (c5) Tryd.func50 GOk.nil subG.nil (by rfl) (fastE (by rfl)) (fastH (by rfl)) (by rfl) (by rfl) rfl rfl rfl rfl rfl (by rfl) (by rfl) (by rfl) (by rfl) (by rfl) (by repeat (first | exact trivial | refine ⟨rfl, ?_⟩)) (by rfl) (by rfl) (by rfl) VW_ NI_ R_ (noFrL_ok NI_) BK_ ?_) | (refine DSeq.callp false (c4) Tryd.func34 GOk.nil subG.nil (by rfl) (fastE (by rfl)) (fastH (by rfl)) (by rfl) (by rfl) rfl rfl rfl rfl rfl (by rfl) (by rfl) VW_ NI_ NI_ FR_ ?_) | (refine VC.litT (by rfl) LTR_ ?_) | (refine VC.litF (by rfl) LFA_ ?_) | (refine DD_ ?_) | fail)
    refine ⟨v + 1, by omega, by omega, ?_⟩
    rw [hT, hts, hg]
    show ∀ a_1 w, _ → Sim _ ⟨[(47, .int .i64 ((v + 1 : Nat) : Int)), (46, .int .i64 l.length), (45, liV l), (13, .sl 5 [] 1 0 (T ++ [Z.getD (l.getD ((v : Nat) : Int).toNat 0).toNat 0]).length), (12, cntF 1 2), (11, .ptr 4 []), (2, .int .i64 k)], [(5, .arr (T ++ [Z.getD (l.getD ((v : Nat) : Int).toNat 0).toNat 0]).length 1 (fun i => .int .i64 ((T ++ [Z.getD (l.getD ((v : Nat) : Int).toNat 0).toNat 0]).getD i 0))), (4, .int .i64 (most k)), (1, .int .i64 (most k)), (2, .mp 3), (3, cntA M)], [], 6⟩ a_1 w
    rw [List.length_append, List.length_singleton]
    (refine Sim.less [(5, 7)] (by rfl) ?_ ?_ <;> (repeat' (first | (exact EnvLe.nil) | (exact HeapLe.nil) | (with_reducible apply EnvLe.cons) | (with_reducible apply HeapLe.cons) | ((with_reducible refine RelA.int ?_; first | (refine Keep.mk ?_; first | with_reducible rfl | omega | decide) | skip)) | (exact rfl) | (exact ⟨rfl, rfl⟩) | ((with_reducible refine RelA.rsl ?_; intro i hi)) | (with_reducible refine RelA.pair ?_ ?_) | ((refine RelA.arr ?_; intro i hi)) | (refine RelA.fn ?_ ?_) | (exact NoId.self (by first | ((repeat' (first | exact trivial | exact rfl | refine NoFr.bif ?_ ?_ | refine NoId.bif ?_ ?_ | refine AllFr.bif ?_ ?_ | (intro i hi) | (refine ⟨?_, ?_⟩) | (intro e; cases e; done))); done) | fail)) | fail)) <;> (try with_reducible refine Keep.mk ?_))
    exact rel_snocG (G := AV.int .i64) (fun e => NI_) hi
  · obtain rfl : v = l.length := by omega
    rw [← hWl, List.take_length]
    repeat' (first | (refine SS_ ?_) | (refine VC.litF (by rfl) LFA_ ?_) | fail)
    refine retC_conv' (s' := ⟨[(8, .sl 5 [] 1 0 W.length), (9, .int .i64 0)], [(5, liO W)], [], 6⟩) (Sim.less [] (by rfl) R_ R_) ?_
    refine retC_conv' (Sim.stillN (e' := [(8, liV W), (9, .int .i64 0)]) (h' := []) [5] (by rfl) HeapN.nil (EnvN.cons (by rfl) (viewN_li' (by rfl) rfl rfl) (EnvN.cons (by rfl) (.rel R_) EnvN.nil))) ?_
    (refine retC_mk ([(8, liV W), (9, .int .i64 0)]) ([]) 6 (Sim.less [] (by rfl) R_ R_) (retQ_ok (by rfl) ([]) (fun i av h => h) ⟨?_, ?_⟩)) <;> rfl
theorem rweight_ok (S : List Int) (R : List Row) (f k : Int) (l : List Int) (hl : l.length ≤ 4611686018427387904) (hS : S.length ≤ 4611686018427387904) (hR : R.length ≤ 4611686018427387904) (hV : ∀ k, (R.getD k rowZ).V.length ≤ 4611686018427387904) : Ok Tryd.prog 14 [] [] (.pair (tabV S R) (.pair (.int .i64 f) (.pair (.int .i64 k) (.pair (liV l) .nul)))) (fun r h' => r = .tup (.pair (liV (weightL ⟨S, R⟩ f k l)) (.pair (.int .i64 (weightE ⟨S, R⟩ f k l)) .nul)) ∧ h' = []) := by
  by_cases h : checkE ⟨S, R⟩ f k = 0
  · by_cases h2 : (l.length : Int) ≠ S.getD f.toNat 0 ∨ badL k l = true
    · obtain ⟨e1, e2⟩ := weightE_five (t := ⟨S, R⟩) h h2
      rw [e1, e2]
      exact rweight_five S R f k l hl hS hR hV h h2
    · have h3 : (l.length : Int) = S.getD f.toNat 0 := Classical.not_not.1 fun hx => h2 (.inl hx)
      have h4 : badL k l = false := by cases hb : badL k l with
        | false => rfl
        | true => exact absurd (.inr hb) h2
      obtain ⟨e1, e2⟩ := weightE_fine (t := ⟨S, R⟩) h h3 h4
      rw [e1, e2]
      exact rweight_fine S R f k l hl h h3 h4
  · obtain ⟨e1, e2⟩ := weightE_chk (t := ⟨S, R⟩) (l := l) h
    rw [e1, e2]
    exact rweight_chk S R f k l hS hR hV h
end Go.Proofs.YtdbebdjnpckfdaaDoor
