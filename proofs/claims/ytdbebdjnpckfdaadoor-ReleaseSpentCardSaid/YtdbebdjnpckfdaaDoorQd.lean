/- Tables of private originals: the reference's Valid. -/
import Derived.Test.YtdbebdjnpckfdaaDoorSk
set_option linter.unusedSimpArgs false
set_option linter.unusedVariables false
namespace Go.Rl
open Go.V Go.Lx
theorem badS_true {S : List Int} : badS S = true ↔ ∃ k, k < S.length ∧ (S.getD k 0 < 1 ∨ 12 < S.getD k 0) := by
  unfold badS
  rw [any_getD (d := 0)]
  constructor
  · rintro ⟨k, hk, h⟩; exact ⟨k, hk, of_decide_eq_true h⟩
  · rintro ⟨k, hk, h⟩; exact ⟨k, hk, decide_eq_true h⟩
theorem badS_false {S : List Int} (h : ∀ k, k < S.length → ¬ (S.getD k 0 < 1 ∨ 12 < S.getD k 0)) : badS S = false := by
  cases hb : badS S with
  | false => rfl
  | true =>
    obtain ⟨k, hk, h2⟩ := badS_true.1 hb
    exact absurd h2 (h k hk)
theorem dis_step {l : List Int} {k : Nat} (h : dis l k) (h2 : ∀ j, j < k → l.getD k 0 ≠ l.getD j 0) : dis l (k + 1) := fun i j hij hj => by
  rcases Nat.lt_or_ge j k with h3 | h3
  · exact h i j hij h3
  · obtain rfl : j = k := by omega
    exact fun e => h2 i hij e.symm
end Go.Rl
namespace Go.Proofs.YtdbebdjnpckfdaaDoor
open Go.V Go.RowKit Go.L Go.Lx Go.Rl
set_option maxRecDepth 10000
set_option maxHeartbeats 4000000
theorem rvalid_ok (S : List Int) (R : List Row) (hS : S.length ≤ 4611686018427387904) (hR : R.length ≤ 4611686018427387904) (hV : ∀ k, (R.getD k rowZ).V.length ≤ 4611686018427387904) : Ok Tryd.prog 18 [] [] (.pair (tabV S R) .nul) (fun r h' => r = .int .i64 (okE ⟨S, R⟩) ∧ h' = []) := by
  by_cases h1 : 8 < S.length ∨ 64 < R.length
  · rw [okE_lim h1]
    refine Ok.of_vcC tt_ok Tryd.func18 rfl rfl (by show 1 ≤ _; decide) 0 (hlt_ok (by rfl)) fun c0 => ?_
    repeat' (first | (refine SS_ ?_) | (refine VC.litT (by rfl) LTR_ ?_) | (refine Seq.litC (by rfl) (by rfl) (fun hb => ?_) (fun hb => ?_) <;> (fail_if_success (with_reducible have := litT_ hb)) <;> (fail_if_success (with_reducible have := litF_ hb)) <;> (try simp only [HB_] at hb) <;> (try (exfalso; first | omega | (cases hb; done)))) | fail)
    all_goals (refine retC_mk ([(2, .int .i64 4)]) ([]) 1 (Sim.less [] (by rfl) R_ R_) (retQ_ok (by rfl) ([]) (fun i av h => h) ⟨?_, ?_⟩)) <;> rfl
  have hbS : ∀ k, k < S.length → (S.getD k 0 < 1 ∨ 12 < S.getD k 0) → okE ⟨S, R⟩ = 1 := fun k hk hb => okE_arg h1 (.inl (badS_true.2 ⟨k, hk, hb⟩))
  have hbR : ∀ k, k < R.length → badR S (R.getD k rowZ) = true → okE ⟨S, R⟩ = 1 := fun k hk hb => okE_arg h1 (.inr ((any_getD (d := rowZ)).2 ⟨k, hk, hb⟩))
  have hgd : (∀ k, k < S.length → ¬ (S.getD k 0 < 1 ∨ 12 < S.getD k 0)) → (∀ k, k < R.length → badR S (R.getD k rowZ) = false) → okE ⟨S, R⟩ = if (ps R).Nodup then 0 else 7 := fun ha hb => okE_two h1 (badS_false ha) hb
  generalize okE ⟨S, R⟩ = E at *
  refine Ok.of_vcC tt_ok Tryd.func18 rfl rfl (by show 1 ≤ _; decide) 0 (hlt_ok (by rfl)) fun c0 => ?_
  repeat' (first | (refine SS_ ?_) | (refine Seq.lit (by rfl) (by rfl) LT2_ ?_) | (refine VC.litF (by rfl) LFA_ ?_) | fail)
  refine VC.loop (fun k : Nat => ⟨[(3, .int .i64 (k : Nat)), (1, .ptr 0 [])], [(0, tabV S R)], [], 1⟩) (fun k => k ≤ S.length ∧ ∀ j, j < k → ¬ (S.getD j 0 < 1 ∨ 12 < S.getD j 0)) (fun k => S.length - k) 0 ⟨by omega, fun j hj => absurd hj (Nat.not_lt_zero j)⟩ (Sim.less [] (by rfl) R_ R_) fun k hk => ?_
  obtain ⟨hk, hgo⟩ := hk
  by_cases hkl : k < S.length
  · have hk0 : (k : Int).toNat = k := Int.toNat_natCast k
    by_cases hb0 : S.getD k 0 < 1 ∨ 12 < S.getD k 0
    · have hE := hbS k hkl hb0
      subst hE
      clear hbS hbR hgd hgo
      rw [← hk0] at hb0
      repeat' (first | (refine SS_ ?_) | (refine VC.litT (by rfl) LTR_ ?_) | (refine Seq.litC (by rfl) (by rfl) (fun hb => ?_) (fun hb => ?_) <;> (fail_if_success (with_reducible have := litT_ hb)) <;> (fail_if_success (with_reducible have := litF_ hb)) <;> (try simp only [HB_] at hb) <;> (try (exfalso; first | omega | (cases hb; done)))) | fail)
      all_goals (refine retC_mk ([(2, .int .i64 1)]) ([]) 1 (Sim.less [] (by rfl) R_ R_) (retQ_ok (by rfl) ([]) (fun i av h => h) ⟨?_, ?_⟩)) <;> rfl
    · have hgo2 : ∀ j, j < k + 1 → ¬ (S.getD j 0 < 1 ∨ 12 < S.getD j 0) := fun j hj => by
        rcases Nat.lt_or_ge j k with h3 | h3
        · exact hgo j h3
        · obtain rfl : j = k := by omega
          exact hb0
      clear hbS hbR hgd hgo
      rw [← hk0] at hb0
      repeat' (first | (refine SS_ ?_) | (refine Seq.lit (by rfl) (by rfl) LT2_ ?_) | (refine VC.litT (by rfl) LTR_ ?_) | (refine VC.litF (by rfl) LFA_ ?_) | fail)
      refine ⟨k + 1, ⟨by omega, hgo2⟩, by omega, ?_⟩
      exact (Sim.less [] (by rfl) R_ R_)
  · have hgd := hgd fun j hj => hgo j (by omega)
    clear hbS hgo
    repeat' (first | (refine SS_ ?_) | (refine VC.litF (by rfl) LFA_ ?_) | fail)
    refine VC.loop (fun k : Nat => ⟨[(4, .int .i64 (k : Nat)), (1, .ptr 0 [])], [(0, tabV S R)], [], 1⟩) (fun k => k ≤ R.length ∧ ∀ j, j < k → badR S (R.getD j rowZ) = false) (fun k => R.length - k) 0 ⟨by omega, fun j hj => absurd hj (Nat.not_lt_zero j)⟩ (Sim.less [] (by rfl) R_ R_) fun k hk => ?_
    obtain ⟨hk, hgo⟩ := hk
    by_cases hkl : k < R.length
    · have hko : R.getD ((k : Nat) : Int).toNat rowZ = R.getD k rowZ := by rw [Int.toNat_natCast]
      have hbad := hbR k hkl
      have hVk := hV k
      have hstep : badR S (R.getD k rowZ) = false → ∀ j, j < k + 1 → badR S (R.getD j rowZ) = false := fun h j hj => by
        rcases Nat.lt_or_ge j k with h3 | h3
        · exact hgo j h3
        · obtain rfl : j = k := by omega
          exact h
      rw [← hko] at hbad hstep hVk
      clear hgd hgo hko hbR
      by_cases hh : (R.getD ((k : Nat) : Int).toNat rowZ).p < 0 ∨ 65535 < (R.getD ((k : Nat) : Int).toNat rowZ).p ∨ (R.getD ((k : Nat) : Int).toNat rowZ).V.length ≠ S.length
      · have hE := hbad (badR_head hh)
        subst hE
        repeat' (first | (refine SS_ ?_) | (refine VC.litT (by rfl) LTR_ ?_) | (refine Seq.litC (by rfl) (by rfl) (fun hb => ?_) (fun hb => ?_) <;> (fail_if_success (with_reducible have := litT_ hb)) <;> (fail_if_success (with_reducible have := litF_ hb)) <;> (try simp only [HB_] at hb) <;> (try (exfalso; first | omega | (cases hb; done)))) | fail)
        all_goals (refine retC_mk ([(2, .int .i64 1)]) ([]) 2 (Sim.less [] (by rfl) R_ R_) (retQ_ok (by rfl) ([]) (fun i av h => h) ⟨?_, ?_⟩)) <;> rfl
      · rw [badR_tail hh] at hbad hstep
        have hV1 := badV_true (S := S) (V := (R.getD ((k : Nat) : Int).toNat rowZ).V)
        have hV2 := badV_false (S := S) (V := (R.getD ((k : Nat) : Int).toNat rowZ).V)
        repeat' (first | (refine SS_ ?_) | (refine Seq.lit (by rfl) (by rfl) LT2_ ?_) | (refine VC.litT (by rfl) LTR_ ?_) | (refine VC.litF (by rfl) LFA_ ?_) | fail)
        refine VC.loop (fun j : Nat => ⟨[(6, .int .i64 (j : Nat)), (5, .ptr 1 []), (4, .int .i64 (k : Nat)), (1, .ptr 0 [])], [(1, rowA (R.getD ((k : Nat) : Int).toNat rowZ)), (0, tabV S R)], [], 2⟩) (fun j => j ≤ (R.getD ((k : Nat) : Int).toNat rowZ).V.length ∧ ∀ i, i < j → 0 ≤ (R.getD ((k : Nat) : Int).toNat rowZ).V.getD i 0 ∧ (R.getD ((k : Nat) : Int).toNat rowZ).V.getD i 0 < S.getD i 0) (fun j => (R.getD ((k : Nat) : Int).toNat rowZ).V.length - j) 0 ⟨by omega, fun i hi => absurd hi (Nat.not_lt_zero i)⟩ (Sim.less [] (by rfl) R_ R_) fun j hj => ?_
        obtain ⟨hj, hvj⟩ := hj
        by_cases hjl : j < (R.getD ((k : Nat) : Int).toNat rowZ).V.length
        · have hj0 : (j : Int).toNat = j := Int.toNat_natCast j
          by_cases hbv : (R.getD ((k : Nat) : Int).toNat rowZ).V.getD j 0 < 0 ∨ S.getD j 0 ≤ (R.getD ((k : Nat) : Int).toNat rowZ).V.getD j 0
          · have hE := hbad (hV1.2 ⟨j, hjl, hbv⟩)
            subst hE
            clear hbad hV1 hV2 hstep hvj
            rw [← hj0] at hbv
            repeat' (first | (refine SS_ ?_) | (refine VC.drawm (id := 17) [(0, 0), (1, 1), (2, 0), (3, 7), (4, 15), (5, 31), (6, 63), (7, 127), (8, 255), (9, 127), (10, 1023), (11, 2047), (12, 127), (13, 4223), (14, 127), (15, 28799), (16, 61567), (17, 131071), (18, 262143)] [] (by rfl) (by kernel_rfl) (by rfl) ?_) | (refine VC.litT (by rfl) LTR_ ?_) | (refine DD_ ?_) | (refine DSeq.litC2 (by rfl) (by rfl) (by rfl) (by rfl) (by rfl) (fun hb => ?_) (fun hb => ?_) <;> (fail_if_success (with_reducible have := litT_ hb)) <;> (fail_if_success (with_reducible have := litF_ hb)) <;> (try simp only [HB_] at hb) <;> (try (exfalso; first | omega | (cases hb; done)))) | fail)
            all_goals (refine retC_mk ([(2, .int .i64 1)]) ([]) 2 (Sim.less [] (by rfl) R_ R_) (retQ_ok (by rfl) ([]) (fun i av h => h) ⟨?_, ?_⟩)) <;> rfl
          · have hvj2 : ∀ i, i < j + 1 → 0 ≤ (R.getD ((k : Nat) : Int).toNat rowZ).V.getD i 0 ∧ (R.getD ((k : Nat) : Int).toNat rowZ).V.getD i 0 < S.getD i 0 := fun i hi => by
              rcases Nat.lt_or_ge i j with h3 | h3
              · exact hvj i h3
              · obtain rfl : i = j := by omega
                omega
            clear hbad hV1 hV2 hstep hvj
            rw [← hj0] at hbv
            repeat' (first | (refine SS_ ?_) | (refine VC.drawm (id := 17) [(0, 0), (1, 1), (2, 0), (3, 7), (4, 15), (5, 31), (6, 63), (7, 127), (8, 255), (9, 127), (10, 1023), (11, 2047), (12, 127), (13, 4223), (14, 127), (15, 28799), (16, 61567), (17, 131071), (18, 262143)] [] (by rfl) (by kernel_rfl) (by rfl) ?_) | (refine VC.litT (by rfl) LTR_ ?_) | (refine VC.litF (by rfl) LFA_ ?_) | (refine DD_ ?_) | (refine DSeq.lit2 (by rfl) (by rfl) (by rfl) LT2_ (by rfl) ?_) | fail)
            refine ⟨j + 1, ⟨by omega, hvj2⟩, by omega, ?_⟩
            exact (Sim.less [] (by rfl) R_ R_)
        · have hgood := hstep (hV2.2 fun i hi => hvj i (by omega))
          clear hbad hV1 hV2 hstep hvj
          repeat' (first | (refine SS_ ?_) | (refine VC.litF (by rfl) LFA_ ?_) | fail)
          refine ⟨k + 1, ⟨by omega, hgood⟩, by omega, ?_⟩
          exact (Sim.less [] (by rfl) R_ R_)
    · have hgd := hgd fun j hj => hgo j (by omega)
      have hnd : (ps R).Nodup ↔ dis (ps R) R.length := by rw [nodup_dis, ps_len]
      clear hbR hgo
      repeat' (first | (refine SS_ ?_) | (refine VC.litF (by rfl) LFA_ ?_) | fail)
      refine VC.loop (fun k : Nat => ⟨[(7, .int .i64 (k : Nat)), (1, .ptr 0 [])], [(0, tabV S R)], [], 1⟩) (fun k => k ≤ R.length ∧ dis (ps R) k) (fun k => R.length - k) 0 ⟨by omega, fun i j _ hj => absurd hj (Nat.not_lt_zero j)⟩ (Sim.less [] (by rfl) R_ R_) fun k hk => ?_
      obtain ⟨hk, hdk⟩ := hk
      by_cases hkl : k < R.length
      · have hstep := dis_step hdk
        have hbad : ∀ j, j < k → (ps R).getD k 0 = (ps R).getD j 0 → E = 7 := fun j hj e => by
          rw [hgd, if_neg]
          exact fun h => hnd.1 h j k hj hkl e.symm
        simp only [ps_get] at hstep hbad
        clear hgd hnd hdk
        repeat' (first | (refine SS_ ?_) | (refine VC.litT (by rfl) LTR_ ?_) | fail)
        refine VC.loop (fun j : Nat => ⟨[(8, .int .i64 (j : Nat)), (7, .int .i64 (k : Nat)), (1, .ptr 0 [])], [(0, tabV S R)], [], 1⟩) (fun j => j ≤ k ∧ ∀ i, i < j → (R.getD k rowZ).p ≠ (R.getD i rowZ).p) (fun j => k - j) 0 ⟨by omega, fun i hi => absurd hi (Nat.not_lt_zero i)⟩ (Sim.less [] (by rfl) R_ R_) fun j hj => ?_
        obtain ⟨hj, hvj⟩ := hj
        by_cases hjl : j < k
        · have hj0 : (j : Int).toNat = j := Int.toNat_natCast j
          have hk0 : (k : Int).toNat = k := Int.toNat_natCast k
          by_cases hq : (R.getD k rowZ).p = (R.getD j rowZ).p
          · have hE := hbad j hjl hq
            subst hE
            clear hbad hstep hvj
            rw [← hj0, ← hk0] at hq
            repeat' (first | (refine SS_ ?_) | (refine VC.drawm (id := 25) [(0, 0), (1, 1), (2, 0), (3, 7), (4, 15), (5, 31), (6, 0), (7, 64), (8, 0), (9, 448), (10, 960), (11, 1984), (12, 4095)] [] (by rfl) (by kernel_rfl) (by rfl) ?_) | (refine VC.litT (by rfl) LTR_ ?_) | (refine DD_ ?_) | fail)
            (refine retC_mk ([(2, .int .i64 7)]) ([]) 1 (Sim.less [] (by rfl) R_ R_) (retQ_ok (by rfl) ([]) (fun i av h => h) ⟨?_, ?_⟩)) <;> rfl
          · have hvj2 : ∀ i, i < j + 1 → (R.getD k rowZ).p ≠ (R.getD i rowZ).p := fun i hi => by
              rcases Nat.lt_or_ge i j with h3 | h3
              · exact hvj i h3
              · obtain rfl : i = j := by omega
                exact hq
            clear hbad hstep hvj
            rw [← hj0, ← hk0] at hq
            repeat' (first | (refine SS_ ?_) | (refine VC.drawm (id := 25) [(0, 0), (1, 1), (2, 0), (3, 7), (4, 15), (5, 31), (6, 0), (7, 64), (8, 0), (9, 448), (10, 960), (11, 1984), (12, 4095)] [] (by rfl) (by kernel_rfl) (by rfl) ?_) | (refine VC.litT (by rfl) LTR_ ?_) | (refine VC.litF (by rfl) LFA_ ?_) | (refine DD_ ?_) | fail)
            refine ⟨j + 1, ⟨by omega, hvj2⟩, by omega, ?_⟩
            exact (Sim.less [] (by rfl) R_ R_)
        · have hgood := hstep fun i hi => hvj i (by omega)
          clear hbad hstep hvj
          repeat' (first | (refine SS_ ?_) | (refine VC.litF (by rfl) LFA_ ?_) | fail)
          refine ⟨k + 1, ⟨by omega, hgood⟩, by omega, ?_⟩
          exact (Sim.less [] (by rfl) R_ R_)
      · obtain rfl : k = R.length := by omega
        rw [if_pos (hnd.2 hdk)] at hgd
        subst hgd
        repeat' (first | (refine SS_ ?_) | (refine VC.litF (by rfl) LFA_ ?_) | fail)
        (refine retC_mk ([(2, .int .i64 0)]) ([]) 1 (Sim.less [] (by rfl) R_ R_) (retQ_ok (by rfl) ([]) (fun i av h => h) ⟨?_, ?_⟩)) <;> rfl
end Go.Proofs.YtdbebdjnpckfdaaDoor
