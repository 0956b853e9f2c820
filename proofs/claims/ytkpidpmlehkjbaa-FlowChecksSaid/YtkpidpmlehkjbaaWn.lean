/- Flow: the error of a network. -/
import Derived.Test.YtkpidpmlehkjbaaWa
import Derived.Test.YtkpidpmlehkjbaaWm
set_option linter.unusedSimpArgs false
set_option linter.unusedVariables false
namespace Go.Fl
/-- Is an edge wrong? The error of a network. -/
def edBad (n : Int) (e : Ed) : Bool := decide (e.a < 0 ∨ n ≤ e.a ∨ e.b < 0 ∨ n ≤ e.b ∨ e.lo < 0 ∨ e.hi < e.lo ∨ 1000 < e.hi ∨ e.c < -1000 ∨ 1000 < e.c)
def givenE (n : Int) (l : List Ed) : Int := if 64 < n ∨ 256 < l.length then 4 else if n < 0 then 1 else if l.any (edBad n) then 1 else 0
end Go.Fl
namespace Go.Proofs.Ytkpidpmlehkjbaa
open Go.V Go.RowKit Go.L Go.Lx Go.Fl
set_option maxRecDepth 10000
set_option maxHeartbeats 4000000
abbrev edA (e : Ed) : AV := .pair (.int .i64 e.a) (.pair (.int .i64 e.b) (.pair (.int .i64 e.lo) (.pair (.int .i64 e.hi) (.pair (.int .i64 e.c) .nul))))
abbrev edV (l : List Ed) : AV := .rsl false l.length 5 (fun i => edA (l.getD i edZ))
abbrev g1F : AV := .fn (.func 42) .nul (.pair (.ptr 0 []) .nul)
abbrev g2F : AV := .fn (.func 43) .nul (.pair (.ptr 1 []) .nul)
abbrev gvH (n : Int) : Asc := [(0, .int .i64 n), (1, g1F)]
theorem g1_ok (n v : Int) : Ok Try.prog 42 [] [(0, .int .i64 n)] (.pair (.int .i64 v) (.pair (.ptr 0 []) .nul)) (fun r h' => r = .bool (decide (0 ≤ v ∧ v < n)) ∧ h' = [(0, .int .i64 n)]) := by
  by_cases h : 0 ≤ v
  · rw [show decide (0 ≤ v ∧ v < n) = decide (v < n) by simp [h]]
    refine Ok.of_vcC tt_ok Try.func42 rfl rfl (by show 2 ≤ _; decide) 1 (hlt_ok (by rfl)) fun c0 => ?_
    repeat' (first | (refine SS_ ?_) | (refine Seq.lit (by rfl) (by rfl) LT2_ ?_) | fail)
    (refine retC_mk ([(3, .bool (decide (v < n)))]) ([(0, .int .i64 n)]) 1 (Sim.less [] (by rfl) R_ R_) (retQ_ok (by rfl) ([(0, .int .i64 n)]) (fun i av h => h) ⟨?_, ?_⟩)) <;> rfl
  · rw [decide_eq_false (by omega)]
    refine Ok.of_vcC tt_ok Try.func42 rfl rfl (by show 2 ≤ _; decide) 1 (hlt_ok (by rfl)) fun c0 => ?_
    repeat' (first | (refine SS_ ?_) | (refine Seq.lit (by rfl) (by rfl) LT2_ ?_) | fail)
    (refine retC_mk ([(3, .bool false)]) ([(0, .int .i64 n)]) 1 (Sim.less [] (by rfl) R_ R_) (retQ_ok (by rfl) ([(0, .int .i64 n)]) (fun i av h => h) ⟨?_, ?_⟩)) <;> rfl
theorem g2_ok (n : Int) (e : Ed) : Ok Try.prog 43 [] (gvH n) (.pair (edA e) (.pair (.ptr 1 []) .nul)) (fun r h' => r = .bool (edBad n e) ∧ h' = gvH n) := by
  have c1 := g1_ok n e.a
  have c2 := g1_ok n e.b
  unfold edBad
  by_cases h1 : 0 ≤ e.a ∧ e.a < n
  · rw [decide_eq_true h1] at c1
    by_cases h2 : 0 ≤ e.b ∧ e.b < n
    · rw [decide_eq_true h2] at c2
      refine Ok.of_vcC tt_ok Try.func43 rfl rfl (by show 2 ≤ _; decide) 2 (hlt_ok (by rfl)) fun c0 => ?_
      repeat' (first | (refine SS_ ?_) | (refine Seq.callo false [] [] (.bool true) ([(0, .int .i64 n)]) 3 (c1) Try.func42 GOk.nil subG.nil (by rfl) (by rfl) rfl rfl rfl rfl rfl (by rfl) rfl (by rfl) (by rfl) (by rfl) (by rfl) VW_ NI_ R_ (noFrL_ok NI_) BK_ ?_) | (refine Seq.callo false [] [] (.bool true) ([(0, .int .i64 n)]) 3 (c2) Try.func42 GOk.nil subG.nil (by rfl) (by rfl) rfl rfl rfl rfl rfl (by rfl) rfl (by rfl) (by rfl) (by rfl) (by rfl) VW_ NI_ R_ (noFrL_ok NI_) BK_ ?_) | (refine Seq.litC (by rfl) (by rfl) (fun hb => ?_) (fun hb => ?_) <;> (fail_if_success (with_reducible have := litT_ hb)) <;> (fail_if_success (with_reducible have := litF_ hb)) <;> (try simp only [HB_] at hb) <;> (try (exfalso; first | omega | (cases hb; done)))) | fail)
      all_goals first | (rw [decide_eq_true (by omega)]; ((refine retC_mk ([(3, .bool true)]) (gvH n) 3 (Sim.less [] (by rfl) R_ R_) (retQ_ok (by rfl) (gvH n) (fun i av h => h) ⟨?_, ?_⟩)) <;> rfl); done) | (rw [decide_eq_decide.2 (show _ ↔ 1000 < e.c by omega)]; ((refine retC_mk ([(3, .bool (decide (1000 < e.c)))]) (gvH n) 3 (Sim.less [] (by rfl) R_ R_) (retQ_ok (by rfl) (gvH n) (fun i av h => h) ⟨?_, ?_⟩)) <;> rfl); done) | fail
    · rw [decide_eq_false h2] at c2
      rw [decide_eq_true (by omega)]
      refine Ok.of_vcC tt_ok Try.func43 rfl rfl (by show 2 ≤ _; decide) 2 (hlt_ok (by rfl)) fun c0 => ?_
      repeat' (first | (refine SS_ ?_) | (refine Seq.callo false [] [] (.bool true) ([(0, .int .i64 n)]) 3 (c1) Try.func42 GOk.nil subG.nil (by rfl) (by rfl) rfl rfl rfl rfl rfl (by rfl) rfl (by rfl) (by rfl) (by rfl) (by rfl) VW_ NI_ R_ (noFrL_ok NI_) BK_ ?_) | (refine Seq.callo false [] [] (.bool false) ([(0, .int .i64 n)]) 3 (c2) Try.func42 GOk.nil subG.nil (by rfl) (by rfl) rfl rfl rfl rfl rfl (by rfl) rfl (by rfl) (by rfl) (by rfl) (by rfl) VW_ NI_ R_ (noFrL_ok NI_) BK_ ?_) | fail)
      (refine retC_mk ([(3, .bool true)]) (gvH n) 3 (Sim.less [] (by rfl) R_ R_) (retQ_ok (by rfl) (gvH n) (fun i av h => h) ⟨?_, ?_⟩)) <;> rfl
  · rw [decide_eq_false h1] at c1
    rw [decide_eq_true (by omega)]
    refine Ok.of_vcC tt_ok Try.func43 rfl rfl (by show 2 ≤ _; decide) 2 (hlt_ok (by rfl)) fun c0 => ?_
    repeat' (first | (refine SS_ ?_) | (refine Seq.callo false [] [] (.bool false) ([(0, .int .i64 n)]) 3 (c1) Try.func42 GOk.nil subG.nil (by rfl) (by rfl) rfl rfl rfl rfl rfl (by rfl) rfl (by rfl) (by rfl) (by rfl) (by rfl) VW_ NI_ R_ (noFrL_ok NI_) BK_ ?_) | fail)
    (refine retC_mk ([(3, .bool true)]) (gvH n) 3 (Sim.less [] (by rfl) R_ R_) (retQ_ok (by rfl) (gvH n) (fun i av h => h) ⟨?_, ?_⟩)) <;> rfl
theorem gidx_ok (n : Int) (l : List Ed) (hl : l.length ≤ 256) : Ok Try.prog 53 [] (gvH n) (.pair (edV l) (.pair g2F .nul)) (fun r h' => r = .int .i64 (idx (edBad n) 0 l) ∧ h' = gvH n) := by
  refine Ok.of_vcC tt_ok Try.func53 rfl rfl (by show 2 ≤ _; decide) 2 (hlt_ok (by rfl)) fun c0 => ?_
  repeat' (first | (refine SS_ ?_) | fail)
  refine VC.loop (fun k : Nat => ⟨[(8, .int .i64 (k : Nat)), (7, .int .i64 l.length), (1, g2F), (0, edV l)], gvH n, [], 2⟩) (fun k => k ≤ l.length ∧ idx (edBad n) 0 l = idx (edBad n) k (l.drop k)) (fun k => l.length - k) 0 ⟨by omega, rfl⟩ (Sim.less [] (by rfl) R_ R_) fun k hk => ?_
  obtain ⟨hk, hi⟩ := hk
  by_cases hkl : k < l.length
  · have hget : l.getD ((k : Nat) : Int).toNat edZ = l.getD k edZ := by rw [Int.toNat_natCast]
    rw [idx_step (d := edZ) hkl] at hi
    have c1 := g2_ok n (l.getD k edZ)
    rw [← hget] at c1 hi
    generalize edBad n (l.getD ((k : Nat) : Int).toNat edZ) = q at *
    repeat' (first | (refine SS_ ?_) | (refine Seq.callo false [] [] (.bool q) (gvH n) 2 (c1) Try.func43 GOk.nil subG.nil (by rfl) (by rfl) rfl rfl rfl rfl rfl (by rfl) rfl (by rfl) (by rfl) (by rfl) (by rfl) VW_ NI_ R_ (noFrL_ok NI_) BK_ ?_) | (refine VC.litT (by rfl) LTR_ ?_) | (refine VC.cond (by rfl) (fun hb => ?_) (fun hb => ?_) <;> (fail_if_success (with_reducible have := litT_ hb)) <;> (fail_if_success (with_reducible have := litF_ hb)) <;> (try simp only [HB_] at hb) <;> (try (exfalso; first | omega | (cases hb; done)))) | fail)
    · rw [if_pos (by simpa using hb)] at hi
      rw [hi]
      (refine retC_mk ([(4, .int .i64 (k : Nat))]) (gvH n) 2 (Sim.less [] (by rfl) R_ R_) (retQ_ok (by rfl) (gvH n) (fun i av h => h) ⟨?_, ?_⟩)) <;> rfl
    · rw [if_neg (by simpa using hb)] at hi
      refine ⟨k + 1, ⟨by omega, hi⟩, by omega, ?_⟩
      exact (Sim.less [] (by rfl) R_ R_)
  · repeat' (first | (refine SS_ ?_) | (refine VC.litF (by rfl) LFA_ ?_) | fail)
    rw [List.drop_of_length_le (by omega)] at hi
    rw [hi]
    (refine retC_mk ([(4, .int .i64 (-1))]) (gvH n) 2 (Sim.less [] (by rfl) R_ R_) (retQ_ok (by rfl) (gvH n) (fun i av h => h) ⟨?_, ?_⟩)) <;> rfl
theorem gcon_ok (n : Int) (l : List Ed) (hl : l.length ≤ 256) : Ok Try.prog 44 [] (gvH n) (.pair (edV l) (.pair g2F .nul)) (fun r h' => r = .bool (l.any (edBad n)) ∧ h' = gvH n) := by
  have c1 := gidx_ok n l hl
  rw [show (l.any (edBad n)) = decide (0 ≤ idx (edBad n) 0 l) by rw [idx_any]]
  generalize idx (edBad n) 0 l = m at *
  refine Ok.of_vcC tt_ok Try.func44 rfl rfl (by show 2 ≤ _; decide) 2 (hlt_ok (by rfl)) fun c0 => ?_
  repeat' (first | (refine SS_ ?_) | (refine Seq.callo false [] [] (.int .i64 m) (gvH n) 2 (c1) Try.func53 GOk.nil subG.nil (by rfl) (by rfl) rfl rfl rfl rfl rfl (by rfl) rfl (by rfl) (by rfl) (by rfl) (by rfl) VW_ NI_ R_ (noFrL_ok NI_) BK_ ?_) | fail)
  (refine retC_mk ([(4, .bool (decide (0 ≤ m)))]) (gvH n) 2 (Sim.less [] (by rfl) R_ R_) (retQ_ok (by rfl) (gvH n) (fun i av h => h) ⟨?_, ?_⟩)) <;> rfl
theorem given_ok (n : Int) (l : List Ed) (hl : l.length ≤ 9223372036854775807) : Ok Try.prog 29 [] [] (.pair (.int .i64 n) (.pair (edV l) .nul)) (fun r h' => r = .int .i64 (givenE n l) ∧ h' = []) := by
  unfold givenE
  by_cases h : 64 < n ∨ 256 < l.length
  · rw [if_pos h]
    refine Ok.of_vcC tt_ok Try.func29 rfl rfl (by show 2 ≤ _; decide) 0 (hlt_ok (by rfl)) fun c0 => ?_
    repeat' (first | (refine SS_ ?_) | (refine VC.litT (by rfl) LTR_ ?_) | (refine Seq.litC (by rfl) (by rfl) (fun hb => ?_) (fun hb => ?_) <;> (fail_if_success (with_reducible have := litT_ hb)) <;> (fail_if_success (with_reducible have := litF_ hb)) <;> (try simp only [HB_] at hb) <;> (try (exfalso; first | omega | (cases hb; done)))) | fail)
    all_goals (refine retC_mk ([(4, .int .i64 4)]) ([]) 1 (Sim.less [] (by rfl) R_ R_) (retQ_ok (by rfl) ([]) (fun i av h => h) ⟨?_, ?_⟩)) <;> rfl
  · rw [if_neg h]
    have c1 := gcon_ok n l (by omega)
    by_cases h2 : n < 0
    · rw [if_pos h2]
      refine Ok.of_vcC tt_ok Try.func29 rfl rfl (by show 2 ≤ _; decide) 0 (hlt_ok (by rfl)) fun c0 => ?_
      repeat' (first | (refine SS_ ?_) | (refine Seq.lit (by rfl) (by rfl) LT2_ ?_) | (refine VC.litT (by rfl) LTR_ ?_) | (refine VC.litF (by rfl) LFA_ ?_) | fail)
      all_goals (refine retC_mk ([(4, .int .i64 1)]) ([]) 2 (Sim.less [] (by rfl) R_ R_) (retQ_ok (by rfl) ([]) (fun i av h => h) ⟨?_, ?_⟩)) <;> rfl
    · rw [if_neg h2]
      generalize l.any (edBad n) = q at *
      refine Ok.of_vcC tt_ok Try.func29 rfl rfl (by show 2 ≤ _; decide) 0 (hlt_ok (by rfl)) fun c0 => ?_
      repeat' (first | (refine SS_ ?_) | (refine Seq.callo false [] [] (.bool q) (gvH n) 2 (c1) Try.func44 GOk.nil subG.nil (by rfl) (by rfl) rfl rfl rfl rfl rfl (by rfl) rfl (by rfl) (by rfl) (by rfl) (by rfl) VW_ NI_ R_ (noFrL_ok NI_) BK_ ?_) | (refine Seq.lit (by rfl) (by rfl) LT2_ ?_) | (refine VC.litF (by rfl) LFA_ ?_) | (refine VC.cond (by rfl) (fun hb => ?_) (fun hb => ?_) <;> (fail_if_success (with_reducible have := litT_ hb)) <;> (fail_if_success (with_reducible have := litF_ hb)) <;> (try simp only [HB_] at hb) <;> (try (exfalso; first | omega | (cases hb; done)))) | fail)
      · rw [if_pos hb]
        (refine retC_mk ([(4, .int .i64 1)]) ([]) 2 (Sim.less [] (by rfl) R_ R_) (retQ_ok (by rfl) ([]) (fun i av h => h) ⟨?_, ?_⟩)) <;> rfl
      · rw [if_neg (by rw [hb]; simp)]
        (refine retC_mk ([(4, .int .i64 0)]) ([]) 2 (Sim.less [] (by rfl) R_ R_) (retQ_ok (by rfl) ([]) (fun i av h => h) ⟨?_, ?_⟩)) <;> rfl
theorem rgiven_ok (n : Int) (l : List Ed) (hl : l.length ≤ 9223372036854775807) : Ok Try.prog 27 [] [] (.pair (.int .i64 n) (.pair (edV l) .nul)) (fun r h' => r = .int .i64 (givenE n l) ∧ h' = []) := by
  unfold givenE
  by_cases h : 64 < n ∨ 256 < l.length
  · rw [if_pos h]
    refine Ok.of_vcC tt_ok Try.func27 rfl rfl (by show 2 ≤ _; decide) 0 (hlt_ok (by rfl)) fun c0 => ?_
    repeat' (first | (refine SS_ ?_) | (refine VC.litT (by rfl) LTR_ ?_) | (refine Seq.litC (by rfl) (by rfl) (fun hb => ?_) (fun hb => ?_) <;> (fail_if_success (with_reducible have := litT_ hb)) <;> (fail_if_success (with_reducible have := litF_ hb)) <;> (try simp only [HB_] at hb) <;> (try (exfalso; first | omega | (cases hb; done)))) | fail)
    all_goals (refine retC_mk ([(4, .int .i64 4)]) ([]) 0 (Sim.less [] (by rfl) R_ R_) (retQ_ok (by rfl) ([]) (fun i av h => h) ⟨?_, ?_⟩)) <;> rfl
  · rw [if_neg h]
    by_cases h2 : n < 0
    · rw [if_pos h2]
      refine Ok.of_vcC tt_ok Try.func27 rfl rfl (by show 2 ≤ _; decide) 0 (hlt_ok (by rfl)) fun c0 => ?_
      repeat' (first | (refine SS_ ?_) | (refine Seq.lit (by rfl) (by rfl) LT2_ ?_) | (refine VC.litT (by rfl) LTR_ ?_) | (refine VC.litF (by rfl) LFA_ ?_) | fail)
      (refine retC_mk ([(4, .int .i64 1)]) ([]) 0 (Sim.less [] (by rfl) R_ R_) (retQ_ok (by rfl) ([]) (fun i av h => h) ⟨?_, ?_⟩)) <;> rfl
    · rw [if_neg h2]
      refine Ok.of_vcC tt_ok Try.func27 rfl rfl (by show 2 ≤ _; decide) 0 (hlt_ok (by rfl)) fun c0 => ?_
      repeat' (first | (refine SS_ ?_) | (refine Seq.lit (by rfl) (by rfl) LT2_ ?_) | (refine VC.litF (by rfl) LFA_ ?_) | fail)
      refine VC.loop (fun k : Nat => ⟨[(5, .int .i64 (k : Nat)), (1, edV l), (0, .int .i64 n)], [], [], 0⟩) (fun k => k ≤ l.length ∧ l.any (edBad n) = (l.drop k).any (edBad n)) (fun k => l.length - k) 0 ⟨by omega, rfl⟩ (Sim.less [] (by rfl) R_ R_) fun k hk => ?_
      obtain ⟨hk, hi⟩ := hk
      by_cases hkl : k < l.length
      · have hget : l.getD ((k : Nat) : Int).toNat edZ = l.getD k edZ := by rw [Int.toNat_natCast]
        rw [drop_step (d := edZ) hkl, List.any_cons, ← hget] at hi
        repeat' (first | (refine SS_ ?_) | (refine VC.litT (by rfl) LTR_ ?_) | (refine Seq.litC (by rfl) (by rfl) (fun hb => ?_) (fun hb => ?_) <;> (fail_if_success (with_reducible have := litT_ hb)) <;> (fail_if_success (with_reducible have := litF_ hb)) <;> (try simp only [HB_] at hb) <;> (try (exfalso; first | omega | (cases hb; done)))) | (refine VC.cond (by rfl) (fun hb => ?_) (fun hb => ?_) <;> (fail_if_success (with_reducible have := litT_ hb)) <;> (fail_if_success (with_reducible have := litF_ hb)) <;> (try simp only [HB_] at hb) <;> (try (exfalso; first | omega | (cases hb; done)))) | fail)
        all_goals first | (refine ⟨k + 1, ⟨by omega, ?_⟩, by omega, ?_⟩; (rw [hi, show edBad n (l.getD ((k : Nat) : Int).toNat edZ) = false by (unfold edBad; exact decide_eq_false (by omega))]; rfl); (exact (Sim.less [] (by rfl) R_ R_)); done) | (rw [hi, show edBad n (l.getD ((k : Nat) : Int).toNat edZ) = true by (unfold edBad; exact decide_eq_true (by omega))]; (refine retC_mk ([(4, .int .i64 1)]) ([]) 1 (Sim.less [] (by rfl) R_ R_) (retQ_ok (by rfl) ([]) (fun i av h => h) ⟨?_, ?_⟩)) <;> rfl; done) | fail
      · repeat' (first | (refine SS_ ?_) | (refine VC.litF (by rfl) LFA_ ?_) | fail)
        rw [List.drop_of_length_le (by omega)] at hi
        rw [hi]
        (refine retC_mk ([(4, .int .i64 0)]) ([]) 0 (Sim.less [] (by rfl) R_ R_) (retQ_ok (by rfl) ([]) (fun i av h => h) ⟨?_, ?_⟩)) <;> rfl
end Go.Proofs.Ytkpidpmlehkjbaa
