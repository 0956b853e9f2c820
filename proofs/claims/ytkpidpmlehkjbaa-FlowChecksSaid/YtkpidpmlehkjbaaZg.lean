/- Flow: Check of the reference. -/
import Derived.Test.YtkpidpmlehkjbaaZf
set_option linter.unusedSimpArgs false
set_option linter.unusedVariables false
namespace Go.Proofs.Ytkpidpmlehkjbaa
open Go.V Go.RowKit Go.L Go.Lx Go.Fl
set_option maxRecDepth 10000
set_option maxHeartbeats 4000000
theorem rcheck_ok (n : Int) (l : List Ed) (F L : List Int) (hl : l.length ≤ 9223372036854775806) (hL : L.length ≤ 9223372036854775806) (hFl : F.length ≤ 9223372036854775806) : Ok Try.prog 19 [] [] (.pair (.int .i64 n) (.pair (edV l) (.pair (ceV F L) .nul))) (fun r h' => r = .int .i64 (chkE n l F L) ∧ h' = []) := by
  have c1 := rgiven_ok n l (by omega)
  by_cases hg : givenE n l = 0
  · rw [hg] at c1
    obtain ⟨h0, ok, hl256⟩ := given_net hg
    have hn64 := ok.n64
    by_cases hf : F.length = l.length
    · by_cases hll : (L.length : Int) = n
      · refine Ok.of_vcC tt_ok Try.func19 rfl rfl (by show 3 ≤ _; decide) 0 (hlt_ok (by rfl)) fun c0 => ?_
        repeat' (first | (refine SS_ ?_) | (refine Seq.callp false (c1) Try.func27 GOk.nil subG.nil (by rfl) (by rfl) rfl rfl rfl rfl rfl (by rfl) rfl VW_ NI_ NI_ FR_ ?_) | (refine Seq.lit (by rfl) (by rfl) LT2_ ?_) | (refine VC.litF (by rfl) LFA_ ?_) | fail)
        refine VC.loop (fun k : Nat => ⟨[(8, .int .i64 (k : Nat)), (5, .ptr 0 []), (1, edV l), (0, .int .i64 n)], [(0, ceV F L)], [], 1⟩) (fun k => k ≤ L.length ∧ ∀ j, j < k → -1099511627776 ≤ L.getD j 0 ∧ L.getD j 0 ≤ 1099511627776) (fun k => L.length - k) 0 ⟨by omega, fun j hj => absurd hj (Nat.not_lt_zero _)⟩ (Sim.less [] (by rfl) R_ R_) fun k hk => ?_
        obtain ⟨hk, hall⟩ := hk
        by_cases hkl : k < L.length
        · have hkk : ((k : Nat) : Int).toNat = k := Int.toNat_natCast k
          have hbad : ¬ (-1099511627776 ≤ L.getD ((k : Nat) : Int).toNat 0 ∧ L.getD ((k : Nat) : Int).toNat 0 ≤ 1099511627776) → chkE n l F L = 15 := fun h => chk_no hg fun hc => h (by rw [hkk]; exact far_get hc.r hkl)
          repeat' (first | (refine SS_ ?_) | (refine VC.litT (by rfl) LTR_ ?_) | (refine Seq.litC (by rfl) (by rfl) (fun hb => ?_) (fun hb => ?_) <;> (fail_if_success (with_reducible have := litT_ hb)) <;> (fail_if_success (with_reducible have := litF_ hb)) <;> (try simp only [HB_] at hb) <;> (try (exfalso; first | omega | (cases hb; done)))) | (refine VC.cond (by rfl) (fun hb => ?_) (fun hb => ?_) <;> (fail_if_success (with_reducible have := litT_ hb)) <;> (fail_if_success (with_reducible have := litF_ hb)) <;> (try simp only [HB_] at hb) <;> (try (exfalso; first | omega | (cases hb; done)))) | fail)
          all_goals first | (refine ⟨k + 1, ⟨by omega, fun j hj => ?_⟩, by omega, ?_⟩; (by_cases e : j = k; (rw [e, ← hkk]; omega); exact hall j (by omega)); (exact (Sim.less [] (by rfl) R_ R_)); done) | (rw [hbad (by omega)]; (refine retC_mk ([(6, .int .i64 15)]) ([]) 1 (Sim.less [] (by rfl) R_ R_) (retQ_ok (by rfl) ([]) (fun i av h => h) ⟨?_, ?_⟩)) <;> rfl; done) | fail
        · obtain rfl : k = L.length := by omega
          have hfar : L.any farP = false := by
            rw [List.any_eq_false]
            intro x hx
            obtain ⟨j, hj, e⟩ := (mem_getD (d := 0)).1 hx
            have := hall j hj
            unfold farP
            rw [decide_eq_true_eq, ← e]
            omega
          clear hall
          repeat' (first | (refine SS_ ?_) | (refine VC.litF (by rfl) LFA_ ?_) | fail)
          refine VC.loop (fun k : Nat => ⟨[(9, .int .i64 (k : Nat)), (5, .ptr 0 []), (1, edV l), (0, .int .i64 n)], [(0, ceV F L)], [], 1⟩) (fun k => k ≤ l.length ∧ ∀ j, j < k → edAt l F L j) (fun k => l.length - k) 0 ⟨by omega, fun j hj => absurd hj (Nat.not_lt_zero _)⟩ (Sim.less [] (by rfl) R_ R_) fun k hk => ?_
          obtain ⟨hk, hall⟩ := hk
          by_cases hkl : k < l.length
          · have hkk : ((k : Nat) : Int).toNat = k := Int.toNat_natCast k
            have he := ok.get hkl
            have r1 := far_get hfar (k := (l.getD k edZ).a.toNat) (by omega)
            have r2 := far_get hfar (k := (l.getD k edZ).b.toNat) (by omega)
            have hed : edAt l F L k = edOk (F.getD k 0) (L.getD (l.getD k edZ).a.toNat 0) (L.getD (l.getD k edZ).b.toNat 0) (l.getD k edZ) := rfl
            unfold edOk at hed
            rw [← hkk] at he r1 r2
            rw [show F.getD k 0 = F.getD ((k : Nat) : Int).toNat 0 by rw [hkk], show l.getD k edZ = (l.getD ((k : Nat) : Int).toNat edZ) by rw [hkk]] at hed
            repeat' (first | (refine SS_ ?_) | (refine VC.drawm (id := 14) [(0, 0), (1, 1), (2, 0), (3, 7), (4, 15), (5, 0), (6, 0), (7, 96), (8, 224), (9, 480), (10, 1023), (11, 2047), (12, 4095), (13, 8191), (14, 4095), (15, 32767), (16, 65535), (17, 4095), (18, 4095), (19, 397311), (20, 921599), (21, 1970175), (22, 4194303), (23, 8388607)] [] (by rfl) (by kernel_rfl) (by rfl) ?_) | (refine VC.drawm (id := 16) [(0, 0), (1, 0), (2, 3), (3, 7), (4, 15), (5, 0), (6, 32), (7, 0), (8, 0), (9, 384), (10, 896), (11, 1920), (12, 4064), (13, 8160), (14, 16383), (15, 0), (16, 32768), (17, 0), (18, 0), (19, 393216), (20, 917504), (21, 1966080), (22, 4161536), (23, 8355840), (24, 16777215)] [25] (by rfl) (by kernel_rfl) (by rfl) ?_) | (refine VC.drawm (id := 17) [(0, 0), (1, 1), (2, 0), (3, 7), (4, 15), (5, 0), (6, 0), (7, 96), (8, 224), (9, 480), (10, 1023), (11, 2047), (12, 4095), (13, 8191), (14, 16383), (15, 32767), (16, 65535), (17, 131071), (18, 65535), (19, 524287), (20, 1048575), (21, 65535), (22, 65535), (23, 6356991), (24, 14745599), (25, 31522815), (26, 67108863), (27, 134217727), (28, 268435455), (29, 536870911), (30, 1073741823), (31, 2147483647)] [] (by rfl) (by kernel_rfl) (by rfl) ?_) | (refine VC.litT (by rfl) LTR_ ?_) | (refine VC.litF (by rfl) LFA_ ?_) | (refine DD_ ?_) | (refine VC.cond (by rfl) (fun hb => ?_) (fun hb => ?_) <;> (fail_if_success (with_reducible have := litT_ hb)) <;> (fail_if_success (with_reducible have := litF_ hb)) <;> (try simp only [HB_] at hb) <;> (try (exfalso; first | omega | (cases hb; done)))) | (refine DSeq.litC2 (by rfl) (by rfl) (by rfl) (by rfl) (by rfl) (fun hb => ?_) (fun hb => ?_) <;> (fail_if_success (with_reducible have := litT_ hb)) <;> (fail_if_success (with_reducible have := litF_ hb)) <;> (try simp only [HB_] at hb) <;> (try (exfalso; first | omega | (cases hb; done)))) | fail)
            all_goals first | (refine ⟨k + 1, ⟨by omega, fun j hj => ?_⟩, by omega, ?_⟩; (by_cases e : j = k; (rw [e, hed]; omega); exact hall j (by omega)); (exact (Sim.less [] (by rfl) R_ R_)); done) | (rw [chk_no hg (fun h => by have := h.e k hkl; rw [hed] at this; omega)]; (refine retC_mk ([(6, .int .i64 15)]) ([]) 1 (Sim.less [] (by rfl) R_ R_) (retQ_ok (by rfl) ([]) (fun i av h => h) ⟨?_, ?_⟩)) <;> rfl; done) | fail
          · obtain rfl : k = l.length := by omega
            have hF := inB_of hf hall
            obtain ⟨m, rfl⟩ : ∃ m : Nat, n = m := ⟨n.toNat, by omega⟩
            rw [Int.toNat_natCast] at *
            have c3 := rbalance_ok ok hF
            repeat' (first | (refine SS_ ?_) | (refine Seq.calln false (c3) Try.func38 GOk.nil subG.nil (by rfl) (by rfl) rfl rfl rfl rfl rfl (by rfl) rfl VW_ NI_ NI_ FR_ ?_) | (refine VC.litF (by rfl) LFA_ ?_) | fail)
            refine VC.loop (fun k : Nat => ⟨[(12, .int .i64 (k : Nat)), (11, .sl 1 [] 1 0 m), (0, .int .i64 (m : Nat))], [(1, .arr m 1 (fun i => .int .i64 ((bals m l F).getD i 0)))], [], 2⟩) (fun k => k ≤ m ∧ ∀ j : Nat, j < k → bal l F j = 0) (fun k => m - k) 0 ⟨by omega, fun j hj => absurd hj (Nat.not_lt_zero _)⟩ (Sim.less [] (by rfl) R_ R_) fun k hk => ?_
            obtain ⟨hk, hall2⟩ := hk
            by_cases hkl2 : k < m
            · have hkk : ((k : Nat) : Int).toNat = k := Int.toNat_natCast k
              have hbv : (bals m l F).getD (0 + ((k : Nat) : Int).toNat) 0 = bal l F k := by rw [hkk, Nat.zero_add, bals_get hkl2]
              repeat' (first | (refine SS_ ?_) | (refine VC.litT (by rfl) LTR_ ?_) | (refine VC.cond (by rfl) (fun hb => ?_) (fun hb => ?_) <;> (fail_if_success (with_reducible have := litT_ hb)) <;> (fail_if_success (with_reducible have := litF_ hb)) <;> (try simp only [HB_] at hb) <;> (try (exfalso; first | omega | (cases hb; done)))) | fail)
              all_goals first | (refine ⟨k + 1, ⟨by omega, fun j hj => ?_⟩, by omega, ?_⟩; (by_cases e : j = k; (rw [e]; omega); exact hall2 j (by omega)); (exact (Sim.less [] (by rfl) R_ R_)); done) | (rw [chk_no hg (fun h => by have := h.b k (by rw [Int.toNat_natCast]; exact hkl2); omega)]; (refine retC_mk ([(6, .int .i64 15)]) ([]) 2 (Sim.less [] (by rfl) R_ R_) (retQ_ok (by rfl) ([]) (fun i av h => h) ⟨?_, ?_⟩)) <;> rfl; done) | fail
            · obtain rfl : k = m := by omega
              rw [chk_yes hg ⟨hf, hll, hfar, hall, fun v hv => hall2 v (by rw [Int.toNat_natCast] at hv; exact hv)⟩]
              repeat' (first | (refine SS_ ?_) | (refine VC.litF (by rfl) LFA_ ?_) | fail)
              (refine retC_mk ([(6, .int .i64 0)]) ([]) 2 (Sim.less [] (by rfl) R_ R_) (retQ_ok (by rfl) ([]) (fun i av h => h) ⟨?_, ?_⟩)) <;> rfl
      · rw [chk_no hg (fun h => hll h.m)]
        refine Ok.of_vcC tt_ok Try.func19 rfl rfl (by show 3 ≤ _; decide) 0 (hlt_ok (by rfl)) fun c0 => ?_
        repeat' (first | (refine SS_ ?_) | (refine Seq.callp false (c1) Try.func27 GOk.nil subG.nil (by rfl) (by rfl) rfl rfl rfl rfl rfl (by rfl) rfl VW_ NI_ NI_ FR_ ?_) | (refine Seq.lit (by rfl) (by rfl) LT2_ ?_) | (refine VC.litT (by rfl) LTR_ ?_) | (refine VC.litF (by rfl) LFA_ ?_) | fail)
        (refine retC_mk ([(6, .int .i64 15)]) ([]) 1 (Sim.less [] (by rfl) R_ R_) (retQ_ok (by rfl) ([]) (fun i av h => h) ⟨?_, ?_⟩)) <;> rfl
    · rw [chk_no hg (fun h => hf h.f)]
      refine Ok.of_vcC tt_ok Try.func19 rfl rfl (by show 3 ≤ _; decide) 0 (hlt_ok (by rfl)) fun c0 => ?_
      repeat' (first | (refine SS_ ?_) | (refine Seq.callp false (c1) Try.func27 GOk.nil subG.nil (by rfl) (by rfl) rfl rfl rfl rfl rfl (by rfl) rfl VW_ NI_ NI_ FR_ ?_) | (refine Seq.lit (by rfl) (by rfl) LT2_ ?_) | (refine VC.litT (by rfl) LTR_ ?_) | (refine VC.litF (by rfl) LFA_ ?_) | fail)
      (refine retC_mk ([(6, .int .i64 15)]) ([]) 1 (Sim.less [] (by rfl) R_ R_) (retQ_ok (by rfl) ([]) (fun i av h => h) ⟨?_, ?_⟩)) <;> rfl
  · rw [chkE, if_pos hg]
    generalize givenE n l = e at *
    refine Ok.of_vcC tt_ok Try.func19 rfl rfl (by show 3 ≤ _; decide) 0 (hlt_ok (by rfl)) fun c0 => ?_
    repeat' (first | (refine SS_ ?_) | (refine Seq.callp false (c1) Try.func27 GOk.nil subG.nil (by rfl) (by rfl) rfl rfl rfl rfl rfl (by rfl) rfl VW_ NI_ NI_ FR_ ?_) | (refine VC.litT (by rfl) LTR_ ?_) | fail)
    (refine retC_mk ([(6, .int .i64 e)]) ([]) 1 (Sim.less [] (by rfl) R_ R_) (retQ_ok (by rfl) ([]) (fun i av h => h) ⟨?_, ?_⟩)) <;> rfl
end Go.Proofs.Ytkpidpmlehkjbaa
