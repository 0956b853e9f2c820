/- Flow: Check of the package. -/
import Derived.Test.YtkpidpmlehkjbaaZe
set_option linter.unusedSimpArgs false
set_option linter.unusedVariables false
namespace Go.Fl
def farP (x : Int) : Bool := decide (x < -1099511627776 ∨ 1099511627776 < x)
def neP (x : Int) : Bool := decide (x ≠ 0)
/-- Is an edge's flow right by the levels? -/
def edOk (f la lb : Int) (e : Ed) : Prop := e.lo ≤ f ∧ f ≤ e.hi ∧ ¬ (e.c + la - lb < 0 ∧ f < e.hi) ∧ ¬ (0 < e.c + la - lb ∧ e.lo < f)
def edAt (l : List Ed) (F L : List Int) (k : Nat) : Prop := edOk (F.getD k 0) (L.getD (l.getD k edZ).a.toNat 0) (L.getD (l.getD k edZ).b.toNat 0) (l.getD k edZ)
structure ChkP (n : Int) (l : List Ed) (F L : List Int) : Prop where
  f : F.length = l.length
  m : (L.length : Int) = n
  r : L.any farP = false
  e : ∀ k, k < l.length → edAt l F L k
  b : ∀ v : Nat, v < n.toNat → bal l F v = 0
noncomputable def chkE (n : Int) (l : List Ed) (F L : List Int) : Int := open Classical in if givenE n l ≠ 0 then givenE n l else if ChkP n l F L then 0 else 15
end Go.Fl
namespace Go.Proofs.Ytkpidpmlehkjbaa
open Go.V Go.RowKit Go.L Go.Lx Go.Fl
set_option maxRecDepth 10000
set_option maxHeartbeats 4000000
theorem frc_ok (x : Int) : Ok Try.prog 35 [] [] (.pair (.int .i64 x) .nul) (fun r h' => r = .bool (farP x) ∧ h' = []) := by
  unfold farP
  by_cases h : x < -1099511627776
  · rw [decide_eq_true (Or.inl h)]
    refine Ok.of_vcC tt_ok Try.func35 rfl rfl (by show 1 ≤ _; decide) 0 (hlt_ok (by rfl)) fun c0 => ?_
    repeat' (first | (refine SS_ ?_) | (refine Seq.lit (by rfl) (by rfl) LT2_ ?_) | fail)
    (refine retC_mk ([(2, .bool true)]) ([]) 0 (Sim.less [] (by rfl) R_ R_) (retQ_ok (by rfl) ([]) (fun i av h => h) ⟨?_, ?_⟩)) <;> rfl
  · rw [decide_eq_decide.2 (show _ ↔ 1099511627776 < x by omega)]
    refine Ok.of_vcC tt_ok Try.func35 rfl rfl (by show 1 ≤ _; decide) 0 (hlt_ok (by rfl)) fun c0 => ?_
    repeat' (first | (refine SS_ ?_) | (refine Seq.lit (by rfl) (by rfl) LT2_ ?_) | fail)
    (refine retC_mk ([(2, .bool (decide (1099511627776 < x)))]) ([]) 0 (Sim.less [] (by rfl) R_ R_) (retQ_ok (by rfl) ([]) (fun i av h => h) ⟨?_, ?_⟩)) <;> rfl
abbrev frF : AV := .fn (.func 35) .nul .nul
theorem fri_ok (l : List Int) (hl : l.length ≤ 9223372036854775806) : Ok Try.prog 51 [] [] (.pair (liV l) (.pair frF .nul)) (fun r h' => r = .int .i64 (idx farP 0 l) ∧ h' = []) := by
  refine Ok.of_vcC tt_ok Try.func51 rfl rfl (by show 2 ≤ _; decide) 0 (hlt_ok (by rfl)) fun c0 => ?_
  repeat' (first | (refine SS_ ?_) | fail)
  refine VC.loop (fun k : Nat => ⟨[(8, .int .i64 (k : Nat)), (7, .int .i64 l.length), (1, frF), (0, liV l)], [], [], 0⟩) (fun k => k ≤ l.length ∧ idx farP 0 l = idx farP k (l.drop k)) (fun k => l.length - k) 0 ⟨by omega, rfl⟩ (Sim.less [] (by rfl) R_ R_) fun k hk => ?_
  obtain ⟨hk, hi⟩ := hk
  by_cases hkl : k < l.length
  · have hget : l.getD ((k : Nat) : Int).toNat 0 = l.getD k 0 := by rw [Int.toNat_natCast]
    rw [idx_step (d := 0) hkl] at hi
    have c1 := frc_ok (l.getD k 0)
    rw [← hget] at c1 hi
    generalize farP (l.getD ((k : Nat) : Int).toNat 0) = q at *
    repeat' (first | (refine SS_ ?_) | (refine Seq.callp false (c1) Try.func35 GOk.nil subG.nil (by rfl) (by rfl) rfl rfl rfl rfl rfl (by rfl) rfl VW_ NI_ NI_ FR_ ?_) | (refine VC.litT (by rfl) LTR_ ?_) | (refine VC.cond (by rfl) (fun hb => ?_) (fun hb => ?_) <;> (fail_if_success (with_reducible have := litT_ hb)) <;> (fail_if_success (with_reducible have := litF_ hb)) <;> (try simp only [HB_] at hb) <;> (try (exfalso; first | omega | (cases hb; done)))) | fail)
    · rw [if_pos (by simpa using hb)] at hi
      rw [hi]
      (refine retC_mk ([(4, .int .i64 (k : Nat))]) ([]) 0 (Sim.less [] (by rfl) R_ R_) (retQ_ok (by rfl) ([]) (fun i av h => h) ⟨?_, ?_⟩)) <;> rfl
    · rw [if_neg (by simpa using hb)] at hi
      refine ⟨k + 1, ⟨by omega, hi⟩, by omega, ?_⟩
      exact (Sim.less [] (by rfl) R_ R_)
  · repeat' (first | (refine SS_ ?_) | (refine VC.litF (by rfl) LFA_ ?_) | fail)
    rw [List.drop_of_length_le (by omega)] at hi
    rw [hi]
    (refine retC_mk ([(4, .int .i64 (-1))]) ([]) 0 (Sim.less [] (by rfl) R_ R_) (retQ_ok (by rfl) ([]) (fun i av h => h) ⟨?_, ?_⟩)) <;> rfl
theorem frn_ok (l : List Int) (hl : l.length ≤ 9223372036854775806) : Ok Try.prog 34 [] [] (.pair (liV l) (.pair frF .nul)) (fun r h' => r = .bool (l.any farP) ∧ h' = []) := by
  have c1 := fri_ok l hl
  rw [show (l.any farP) = decide (0 ≤ idx farP 0 l) by rw [idx_any]]
  generalize idx farP 0 l = m at *
  refine Ok.of_vcC tt_ok Try.func34 rfl rfl (by show 2 ≤ _; decide) 0 (hlt_ok (by rfl)) fun c0 => ?_
  repeat' (first | (refine SS_ ?_) | (refine Seq.callp false (c1) Try.func51 GOk.nil subG.nil (by rfl) (by rfl) rfl rfl rfl rfl rfl (by rfl) rfl VW_ NI_ NI_ FR_ ?_) | fail)
  (refine retC_mk ([(4, .bool (decide (0 ≤ m)))]) ([]) 0 (Sim.less [] (by rfl) R_ R_) (retQ_ok (by rfl) ([]) (fun i av h => h) ⟨?_, ?_⟩)) <;> rfl
theorem nzc_ok (x : Int) : Ok Try.prog 37 [] [] (.pair (.int .i64 x) .nul) (fun r h' => r = .bool (neP x) ∧ h' = []) := by
  unfold neP
  refine Ok.of_vcC tt_ok Try.func37 rfl rfl (by show 1 ≤ _; decide) 0 (hlt_ok (by rfl)) fun c0 => ?_
  repeat' (first | (refine SS_ ?_) | fail)
  (refine retC_mk ([(2, .bool (decide (x ≠ 0)))]) ([]) 0 (Sim.less [] (by rfl) R_ R_) (retQ_ok (by rfl) ([]) (fun i av h => h) ⟨?_, ?_⟩)) <;> rfl
abbrev nzF : AV := .fn (.func 37) .nul .nul
theorem nzi_ok (l : List Int) (hl : l.length ≤ 9223372036854775806) : Ok Try.prog 51 [] [] (.pair (liV l) (.pair nzF .nul)) (fun r h' => r = .int .i64 (idx neP 0 l) ∧ h' = []) := by
  refine Ok.of_vcC tt_ok Try.func51 rfl rfl (by show 2 ≤ _; decide) 0 (hlt_ok (by rfl)) fun c0 => ?_
  repeat' (first | (refine SS_ ?_) | fail)
  refine VC.loop (fun k : Nat => ⟨[(8, .int .i64 (k : Nat)), (7, .int .i64 l.length), (1, nzF), (0, liV l)], [], [], 0⟩) (fun k => k ≤ l.length ∧ idx neP 0 l = idx neP k (l.drop k)) (fun k => l.length - k) 0 ⟨by omega, rfl⟩ (Sim.less [] (by rfl) R_ R_) fun k hk => ?_
  obtain ⟨hk, hi⟩ := hk
  by_cases hkl : k < l.length
  · have hget : l.getD ((k : Nat) : Int).toNat 0 = l.getD k 0 := by rw [Int.toNat_natCast]
    rw [idx_step (d := 0) hkl] at hi
    have c1 := nzc_ok (l.getD k 0)
    rw [← hget] at c1 hi
    generalize neP (l.getD ((k : Nat) : Int).toNat 0) = q at *
    repeat' (first | (refine SS_ ?_) | (refine Seq.callp false (c1) Try.func37 GOk.nil subG.nil (by rfl) (by rfl) rfl rfl rfl rfl rfl (by rfl) rfl VW_ NI_ NI_ FR_ ?_) | (refine VC.litT (by rfl) LTR_ ?_) | (refine VC.cond (by rfl) (fun hb => ?_) (fun hb => ?_) <;> (fail_if_success (with_reducible have := litT_ hb)) <;> (fail_if_success (with_reducible have := litF_ hb)) <;> (try simp only [HB_] at hb) <;> (try (exfalso; first | omega | (cases hb; done)))) | fail)
    · rw [if_pos (by simpa using hb)] at hi
      rw [hi]
      (refine retC_mk ([(4, .int .i64 (k : Nat))]) ([]) 0 (Sim.less [] (by rfl) R_ R_) (retQ_ok (by rfl) ([]) (fun i av h => h) ⟨?_, ?_⟩)) <;> rfl
    · rw [if_neg (by simpa using hb)] at hi
      refine ⟨k + 1, ⟨by omega, hi⟩, by omega, ?_⟩
      exact (Sim.less [] (by rfl) R_ R_)
  · repeat' (first | (refine SS_ ?_) | (refine VC.litF (by rfl) LFA_ ?_) | fail)
    rw [List.drop_of_length_le (by omega)] at hi
    rw [hi]
    (refine retC_mk ([(4, .int .i64 (-1))]) ([]) 0 (Sim.less [] (by rfl) R_ R_) (retQ_ok (by rfl) ([]) (fun i av h => h) ⟨?_, ?_⟩)) <;> rfl
theorem nzn_ok (l : List Int) (hl : l.length ≤ 9223372036854775806) : Ok Try.prog 34 [] [] (.pair (liV l) (.pair nzF .nul)) (fun r h' => r = .bool (l.any neP) ∧ h' = []) := by
  have c1 := nzi_ok l hl
  rw [show (l.any neP) = decide (0 ≤ idx neP 0 l) by rw [idx_any]]
  generalize idx neP 0 l = m at *
  refine Ok.of_vcC tt_ok Try.func34 rfl rfl (by show 2 ≤ _; decide) 0 (hlt_ok (by rfl)) fun c0 => ?_
  repeat' (first | (refine SS_ ?_) | (refine Seq.callp false (c1) Try.func51 GOk.nil subG.nil (by rfl) (by rfl) rfl rfl rfl rfl rfl (by rfl) rfl VW_ NI_ NI_ FR_ ?_) | fail)
  (refine retC_mk ([(4, .bool (decide (0 ≤ m)))]) ([]) 0 (Sim.less [] (by rfl) R_ R_) (retQ_ok (by rfl) ([]) (fun i av h => h) ⟨?_, ?_⟩)) <;> rfl
theorem chk_no {n : Int} {l : List Ed} {F L : List Int} (hg : givenE n l = 0) (h : ¬ ChkP n l F L) : chkE n l F L = 15 := by rw [chkE, if_neg (by simp [hg]), if_neg h]
theorem chk_yes {n : Int} {l : List Ed} {F L : List Int} (hg : givenE n l = 0) (h : ChkP n l F L) : chkE n l F L = 0 := by rw [chkE, if_neg (by simp [hg]), if_pos h]
theorem far_get {L : List Int} (h : L.any farP = false) {k : Nat} (hk : k < L.length) : -1099511627776 ≤ L.getD k 0 ∧ L.getD k 0 ≤ 1099511627776 := by
  have := List.any_eq_false.1 h _ (getD_mem (d := 0) hk)
  unfold farP at this
  rw [decide_eq_true_eq] at this
  omega
theorem inB_of {l : List Ed} {F L : List Int} (hf : F.length = l.length) (h : ∀ k, k < l.length → edAt l F L k) : inB l F := inB_iff.2 ⟨hf, fun k hk => ⟨(h k hk).1, (h k hk).2.1⟩⟩
theorem check_ok (n : Int) (l : List Ed) (F L : List Int) (hl : l.length ≤ 9223372036854775806) (hL : L.length ≤ 9223372036854775806) (hFl : F.length ≤ 9223372036854775806) : Ok Try.prog 18 [] [] (.pair (.int .i64 n) (.pair (edV l) (.pair (ceV F L) .nul))) (fun r h' => r = .int .i64 (chkE n l F L) ∧ h' = []) := by
  have c1 := given_ok n l (by omega)
  by_cases hg : givenE n l = 0
  · rw [hg] at c1
    obtain ⟨h0, ok, hl256⟩ := given_net hg
    have hn64 := ok.n64
    have c2 := frn_ok L hL
    by_cases hf : F.length = l.length
    · by_cases hll : (L.length : Int) = n
      · by_cases hfar : L.any farP = false
        · rw [hfar] at c2
          refine Ok.of_vcC tt_ok Try.func18 rfl rfl (by show 3 ≤ _; decide) 0 (hlt_ok (by rfl)) fun c0 => ?_
          repeat' (first | (refine SS_ ?_) | (refine Seq.callp false (c1) Try.func29 GOk.nil subG.nil (by rfl) (by rfl) rfl rfl rfl rfl rfl (by rfl) rfl VW_ NI_ NI_ FR_ ?_) | (refine Seq.callp false (c2) Try.func34 GOk.nil subG.nil (by rfl) (by rfl) rfl rfl rfl rfl rfl (by rfl) rfl VW_ NI_ NI_ FR_ ?_) | (refine Seq.lit (by rfl) (by rfl) LT2_ ?_) | (refine VC.litF (by rfl) LFA_ ?_) | fail)
          refine VC.loop (fun k : Nat => ⟨[(39, .int .i64 (k : Nat)), (38, .int .i64 l.length), (37, edV l), (5, .ptr 0 []), (1, edV l), (0, .int .i64 n)], [(0, ceV F L)], [], 1⟩) (fun k => k ≤ l.length ∧ ∀ j, j < k → edAt l F L j) (fun k => l.length - k) 0 ⟨by omega, fun j hj => absurd hj (Nat.not_lt_zero _)⟩ (Sim.less [] (by rfl) R_ R_) fun k hk => ?_
          obtain ⟨hk, hall⟩ := hk
          by_cases hkl : k < l.length
          · have hkk : ((k : Nat) : Int).toNat = k := Int.toNat_natCast k
            have he := ok.get hkl
            have r1 := far_get hfar (k := (l.getD k edZ).a.toNat) (by omega)
            have r2 := far_get hfar (k := (l.getD k edZ).b.toNat) (by omega)
            have hed : edAt l F L k = edOk (F.getD k 0) (L.getD (l.getD k edZ).a.toNat 0) (L.getD (l.getD k edZ).b.toNat 0) (l.getD k edZ) := rfl
            unfold edOk at hed
            rw [← hkk] at he r1 r2
            rw [show F.getD k 0 = F.getD ((k : Nat) : Int).toNat 0 by rw [hkk], show l.getD k edZ = (l.getD ((k : Nat) : Int).toNat edZ) by rw [hkk]] at hed
            repeat' (first | (refine SS_ ?_) | (refine VC.drawm (id := 9) [(0, 0), (1, 1), (2, 0), (3, 7), (4, 15), (5, 0), (6, 32), (7, 0), (8, 128), (9, 0), (10, 512), (11, 1920), (12, 3968), (13, 8160), (14, 0), (15, 16384), (16, 0), (17, 65536), (18, 245760), (19, 507904), (20, 1048544), (21, 31)] [22] (by rfl) (by kernel_rfl) (by rfl) ?_) | (refine Seq.lit (by rfl) (by rfl) LT2_ ?_) | (refine VC.litT (by rfl) LTR_ ?_) | (refine VC.litF (by rfl) LFA_ ?_) | (refine DD_ ?_) | (refine Seq.litC (by rfl) (by rfl) (fun hb => ?_) (fun hb => ?_) <;> (fail_if_success (with_reducible have := litT_ hb)) <;> (fail_if_success (with_reducible have := litF_ hb)) <;> (try simp only [HB_] at hb) <;> (try (exfalso; first | omega | (cases hb; done)))) | (refine VC.cond (by rfl) (fun hb => ?_) (fun hb => ?_) <;> (fail_if_success (with_reducible have := litT_ hb)) <;> (fail_if_success (with_reducible have := litF_ hb)) <;> (try simp only [HB_] at hb) <;> (try (exfalso; first | omega | (cases hb; done)))) | fail)
            all_goals first | (refine ⟨k + 1, ⟨by omega, fun j hj => ?_⟩, by omega, ?_⟩; (by_cases e : j = k; (rw [e, hed]; omega); exact hall j (by omega)); (exact (Sim.less [] (by rfl) R_ R_)); done) | (rw [chk_no hg (fun h => by have := h.e k hkl; rw [hed] at this; omega)]; (refine retC_mk ([(6, .int .i64 15)]) ([]) 2 (Sim.less [] (by rfl) R_ R_) (retQ_ok (by rfl) ([]) (fun i av h => h) ⟨?_, ?_⟩)) <;> rfl; done) | fail
          · obtain rfl : k = l.length := by omega
            have hF := inB_of hf hall
            have c3 := excessC_ok ok hF
            have hbl : (bals n.toNat l F).length = n.toNat := bals_eq
            have c4 := nzn_ok (bals n.toNat l F) (by omega)
            have hany : (bals n.toNat l F).any neP = false ↔ ∀ v : Nat, v < n.toNat → bal l F v = 0 := by
              rw [List.any_eq_false]
              constructor
              · intro h v hv
                have := h (bal l F v) (by unfold bals; exact List.mem_map.2 ⟨v, List.mem_range.2 hv, rfl⟩)
                unfold neP at this
                rw [decide_eq_true_eq] at this
                omega
              · intro h x hx
                unfold bals at hx
                obtain ⟨v, hv, rfl⟩ := List.mem_map.1 hx
                unfold neP
                rw [decide_eq_true_eq, h v (List.mem_range.1 hv)]
                omega
            obtain ⟨m, rfl⟩ : ∃ m : Nat, n = m := ⟨n.toNat, by omega⟩
            rw [Int.toNat_natCast] at *
            have hchk : chkE m l F L = if (bals m l F).any neP = true then 15 else 0 := by
              by_cases hb : (bals m l F).any neP = true
              · rw [if_pos hb]
                exact chk_no hg fun h => by
                  have := hany.2 (fun v hv => h.b v (by rw [Int.toNat_natCast]; exact hv))
                  rw [hb] at this; cases this
              · rw [if_neg hb]
                exact chk_yes hg ⟨hf, hll, hfar, hall, fun v hv => hany.1 (by simpa using hb) v (by rw [Int.toNat_natCast] at hv; exact hv)⟩
            rw [hchk]
            replace c4 : Ok Try.prog 34 [] [] (.pair (.rsl false m 1 (fun i => .int .i64 ((bals m l F).getD i 0))) (.pair nzF .nul)) (fun r h' => r = .bool ((bals m l F).any neP) ∧ h' = []) := by
              rw [← hbl]; rw [hbl]; have := c4; unfold liV at this; rw [hbl] at this; exact this
            generalize (bals m l F).any neP = q at *
            repeat' (first | (refine SS_ ?_) | (refine Seq.callo false [(0, 1)] [(1, 0), (2, 1)] (.sl 2 [] 1 0 m) ([(1, cnA m l F), (2, .arr m 1 (fun i => .int .i64 ((bals m l F).getD i 0)))]) 3 (c3) Try.func36 GOk.nil subG.nil (by rfl) (by rfl) rfl rfl rfl rfl rfl (by rfl) rfl (by rfl) (by rfl) (by rfl) (by rfl) VW_ NI_ R_ (noFrL_ok NI_) BK_ ?_) | (refine Seq.callp true (c4) Try.func34 GOk.nil subG.nil (by rfl) (by rfl) rfl rfl rfl rfl rfl (by rfl) rfl VW_ NI_ NI_ FR_ ?_) | (refine VC.litF (by rfl) LFA_ ?_) | (refine VC.cond (by rfl) (fun hb => ?_) (fun hb => ?_) <;> (fail_if_success (with_reducible have := litT_ hb)) <;> (fail_if_success (with_reducible have := litF_ hb)) <;> (try simp only [HB_] at hb) <;> (try (exfalso; first | omega | (cases hb; done)))) | fail)
            · rw [if_pos (by simpa using hb)]
              (refine retC_mk ([(6, .int .i64 15)]) ([]) 3 (Sim.less [] (by rfl) R_ R_) (retQ_ok (by rfl) ([]) (fun i av h => h) ⟨?_, ?_⟩)) <;> rfl
            · rw [if_neg (by simpa using hb)]
              (refine retC_mk ([(6, .int .i64 0)]) ([]) 3 (Sim.less [] (by rfl) R_ R_) (retQ_ok (by rfl) ([]) (fun i av h => h) ⟨?_, ?_⟩)) <;> rfl
        · have hfar2 : L.any farP = true := by simpa using hfar
          rw [hfar2] at c2
          rw [chk_no hg (fun h => hfar h.r)]
          refine Ok.of_vcC tt_ok Try.func18 rfl rfl (by show 3 ≤ _; decide) 0 (hlt_ok (by rfl)) fun c0 => ?_
          repeat' (first | (refine SS_ ?_) | (refine Seq.callp false (c1) Try.func29 GOk.nil subG.nil (by rfl) (by rfl) rfl rfl rfl rfl rfl (by rfl) rfl VW_ NI_ NI_ FR_ ?_) | (refine Seq.callp false (c2) Try.func34 GOk.nil subG.nil (by rfl) (by rfl) rfl rfl rfl rfl rfl (by rfl) rfl VW_ NI_ NI_ FR_ ?_) | (refine Seq.lit (by rfl) (by rfl) LT2_ ?_) | (refine VC.litT (by rfl) LTR_ ?_) | (refine VC.litF (by rfl) LFA_ ?_) | fail)
          (refine retC_mk ([(6, .int .i64 15)]) ([]) 1 (Sim.less [] (by rfl) R_ R_) (retQ_ok (by rfl) ([]) (fun i av h => h) ⟨?_, ?_⟩)) <;> rfl
      · rw [chk_no hg (fun h => hll h.m)]
        refine Ok.of_vcC tt_ok Try.func18 rfl rfl (by show 3 ≤ _; decide) 0 (hlt_ok (by rfl)) fun c0 => ?_
        repeat' (first | (refine SS_ ?_) | (refine Seq.callp false (c1) Try.func29 GOk.nil subG.nil (by rfl) (by rfl) rfl rfl rfl rfl rfl (by rfl) rfl VW_ NI_ NI_ FR_ ?_) | (refine Seq.lit (by rfl) (by rfl) LT2_ ?_) | (refine VC.litT (by rfl) LTR_ ?_) | (refine VC.litF (by rfl) LFA_ ?_) | fail)
        (refine retC_mk ([(6, .int .i64 15)]) ([]) 1 (Sim.less [] (by rfl) R_ R_) (retQ_ok (by rfl) ([]) (fun i av h => h) ⟨?_, ?_⟩)) <;> rfl
    · rw [chk_no hg (fun h => hf h.f)]
      refine Ok.of_vcC tt_ok Try.func18 rfl rfl (by show 3 ≤ _; decide) 0 (hlt_ok (by rfl)) fun c0 => ?_
      repeat' (first | (refine SS_ ?_) | (refine Seq.callp false (c1) Try.func29 GOk.nil subG.nil (by rfl) (by rfl) rfl rfl rfl rfl rfl (by rfl) rfl VW_ NI_ NI_ FR_ ?_) | (refine Seq.lit (by rfl) (by rfl) LT2_ ?_) | (refine VC.litT (by rfl) LTR_ ?_) | (refine VC.litF (by rfl) LFA_ ?_) | fail)
      (refine retC_mk ([(6, .int .i64 15)]) ([]) 1 (Sim.less [] (by rfl) R_ R_) (retQ_ok (by rfl) ([]) (fun i av h => h) ⟨?_, ?_⟩)) <;> rfl
  · rw [chkE, if_pos hg]
    generalize givenE n l = e at *
    refine Ok.of_vcC tt_ok Try.func18 rfl rfl (by show 3 ≤ _; decide) 0 (hlt_ok (by rfl)) fun c0 => ?_
    repeat' (first | (refine SS_ ?_) | (refine Seq.callp false (c1) Try.func29 GOk.nil subG.nil (by rfl) (by rfl) rfl rfl rfl rfl rfl (by rfl) rfl VW_ NI_ NI_ FR_ ?_) | (refine VC.litT (by rfl) LTR_ ?_) | fail)
    (refine retC_mk ([(6, .int .i64 e)]) ([]) 1 (Sim.less [] (by rfl) R_ R_) (retQ_ok (by rfl) ([]) (fun i av h => h) ⟨?_, ?_⟩)) <;> rfl
end Go.Proofs.Ytkpidpmlehkjbaa
