/- Flow: the nodes reached from one. -/
import Derived.Test.YtkpidpmlehkjbaaFw
import Derived.Test.YtkpidpmlehkjbaaWv
set_option linter.unusedSimpArgs false
set_option linter.unusedVariables false
namespace Go.Proofs.Ytkpidpmlehkjbaa
open Go.V Go.RowKit Go.L Go.Lx Go.Fl
set_option maxRecDepth 10000
set_option maxHeartbeats 4000000
abbrev rcH (n : Nat) (l : List Ed) (F : List Int) (E : List (Int × Nat)) (D Q : List Int) : Asc := (3, .arr (D ++ Q).length 1 (fun i => .int .i64 ((D ++ Q).getD i 0))) :: (2, entO l E) :: nH n l F
abbrev rcS (n : Nat) (l : List Ed) (F : List Int) (z : Int) (E : List (Int × Nat)) (D Q : List Int) : St := ⟨[(6, .sl 3 [] 1 D.length Q.length), (5, .mp 2), (1, .int .i64 z), (0, .ptr 0 [])], rcH n l F E D Q, [], 4⟩
abbrev rcS2 (n : Nat) (l : List Ed) (F : List Int) (z v : Int) (j : Nat) (E : List (Int × Nat)) (D Q : List Int) : St := ⟨[(28, .int .i64 (j : Nat)), (27, .int .i64 (2 * l.length : Nat)), (26, .rsl false (2 * l.length) 5 (arcA l)), (7, .int .i64 v), (6, .sl 3 [] 1 D.length Q.length), (5, .mp 2), (1, .int .i64 z), (0, .ptr 0 [])], rcH n l F E D Q, [], 4⟩
theorem ent_nil (l : List Ed) (A : Nat → Prop) (σ : Nat → Nat) : RelA A σ (entO l []) (.mo 0 (fun _ => .nul) (fun _ => .nul)) := ⟨_, _, rfl, fun i hi => absurd hi (Nat.not_lt_zero _)⟩
theorem reach_walk {n : Nat} {l : List Ed} {F : List Int} (ok : NetOk n l) (hF : inB l F) (z : Nat) (hz : z < n) : Ok Try.prog 45 [] (nH n l F) (.pair (.ptr 0 []) (.pair (.int .i64 (z : Nat)) .nul)) (fun r h' => r = .mp 2 ∧ h' = [(2, entO l (reach n l F z)), (0, netA n l), (1, liO F)]) := by
  have hn := ok.nodes
  have hlen := (inB_iff.1 hF).1
  have hn64 := ok.n64
  have hl256 := ok.l256
  refine Ok.of_vcC tt_ok Try.func45 rfl rfl (by show 2 ≤ _; decide) 2 (hlt_ok (by rfl)) fun c0 => ?_
  repeat' (first | (refine SS_ ?_) | fail)
  refine VC.loop (fun k : Nat × List (Int × Nat) × List Int × List Int => rcS n l F z k.2.1 k.2.2.2 k.2.2.1) (fun k => RcI n l F z (-1) 0 (k.2.1, k.2.2.1) ∧ n + k.2.2.1.length ≤ k.1 + k.2.1.length ∧ k.1 ≤ n + 1 ∧ rcQ l F z k.1 (k.2.1, k.2.2.1) = reach n l F z) (fun k => k.1) (n + 1, [], [(z : Int)], []) ⟨rcI_zero, by simp, Nat.le_refl _, rfl⟩ (by
    (refine Sim.less [] (by rfl) ?_ ?_ <;> (repeat' (first | (exact EnvLe.nil) | (exact HeapLe.nil) | (with_reducible apply EnvLe.cons) | (with_reducible apply HeapLe.cons) | ((with_reducible refine RelA.int ?_; first | (refine Keep.mk ?_; first | with_reducible rfl | omega | decide) | skip)) | (exact rfl) | (exact ⟨rfl, rfl⟩) | ((with_reducible refine RelA.rsl ?_; intro i hi)) | ((with_reducible refine RelA.arr ?_; intro i hi)) | (with_reducible refine RelA.pair ?_ ?_) | ((refine RelA.arr ?_; intro i hi)) | fail)) <;> (try with_reducible refine Keep.mk ?_))
    · have : i = 0 := by have : i < 1 := hi; omega
      subst this
      exact NoId.self NI_
    · exact ent_nil l _ _) fun k hk => ?_
  obtain ⟨q, E, Q, D⟩ := k
  obtain ⟨h1, h2, hq, h3⟩ := hk
  replace hq : q ≤ n + 1 := hq
  replace h1 : RcI n l F z (-1) 0 (E, Q) := h1
  replace h2 : n + Q.length ≤ q + E.length := h2
  replace h3 : rcQ l F z q (E, Q) = reach n l F z := h3
  have hE := (h1.r.len hn).1
  replace hE : E.length ≤ n := hE
  refine VC.conv (s' := rcS n l F z E D Q) (fun a w h => h) ?_
  cases Q with
  | nil =>
    have h3 : E = reach n l F z := by rw [← h3]; cases q <;> rfl
    rw [← h3]
    repeat' (first | (refine SS_ ?_) | (refine VC.litF (by rfl) LFA_ ?_) | fail)
    (refine retC_mk ([(4, .mp 2)]) ([(2, entO l E), (0, netA n l), (1, liO F)]) 4 (Sim.less [] (by rfl) R_ R_) (retQ_ok (by rfl) ([(2, entO l E), (0, netA n l), (1, liO F)]) (fun i av h => h) ⟨?_, ?_⟩)) <;> rfl
  | cons v Q =>
    obtain ⟨q, rfl⟩ : ∃ q', q = q' + 1 := ⟨q - 1, by simp at h2; omega⟩
    obtain ⟨g0, g1, g2, g3⟩ := rcQ_step h1 (by omega) hn
    have hv : (D ++ v :: Q).getD (D.length + ((0 : Int)).toNat) 0 = v := by simp
    have hQ1 : (v :: Q).length = Q.length + 1 := rfl
    have hD1 : (D ++ v :: Q).length = D.length + (Q.length + 1) := by rw [List.length_append]; rfl
    have hQn : Q.length ≤ 65 := by simp at h2; omega
    repeat' (first | (refine SS_ ?_) | (refine VC.litT (by rfl) LTR_ ?_) | fail)
    refine VC.loop (fun k : Nat × List Int => rcS2 n l F z v k.1 (rcJ l F z v k.1 (E, Q)).1 k.2 (rcJ l F z v k.1 (E, Q)).2) (fun k => k.1 ≤ 2 * l.length) (fun k => 2 * l.length - k.1) (0, D ++ [v]) (by simp) (by
      show ∀ a w, _ → Sim _ ⟨[(28, .int .i64 ((0 : Nat) : Int)), (27, .int .i64 (2 * l.length : Nat)), (26, .rsl false (2 * l.length) 5 (arcA l)), (7, .int .i64 v), (6, .sl 3 [] 1 (D ++ [v]).length Q.length), (5, .mp 2), (1, .int .i64 z), (0, .ptr 0 [])], (3, .arr ((D ++ [v]) ++ Q).length 1 (fun i => .int .i64 (((D ++ [v]) ++ Q).getD i 0))) :: (2, entO l E) :: nH n l F, [], 4⟩ a w
      rw [show (D ++ [v]) ++ Q = D ++ v :: Q by simp, show (D ++ [v]).length = D.length + Int.toNat 1 by simp, show Q.length = (v :: Q).length - Int.toNat 1 by simp]
      exact (Sim.less [] (by rfl) R_ R_)
      all_goals rw [hv]) fun k hk => ?_
    obtain ⟨j, D'⟩ := k
    replace hk : j ≤ 2 * l.length := hk
    obtain ⟨i1, i2, i3⟩ := rcJ_ok (n := n) (s := (E, Q)) g1 g0 (j := j) hk
    have hEl := (i1.r.len hn).1
    have hst : j < 2 * l.length → rcJ l F z v (j + 1) (E, Q) = rcA l F z v j (rcJ l F z v j (E, Q)) := fun _ => rfl
    refine VC.conv (s' := rcS2 n l F z v j (rcJ l F z v j (E, Q)).1 D' (rcJ l F z v j (E, Q)).2) (fun a w h => h) ?_
    obtain ⟨⟨E2, Q2⟩, hr⟩ : ∃ s, rcJ l F z v j (E, Q) = s := ⟨_, rfl⟩
    rw [hr] at i1 i2 i3 hEl hst ⊢
    replace i3 : E2.length + Q.length = Q2.length + E.length := i3
    replace hEl : E2.length ≤ n := hEl
    refine VC.conv (s' := rcS2 n l F z v j E2 D' Q2) (fun a w h => h) ?_
    have hskip : j < 2 * l.length → ¬ (aF l j = v ∧ aT l j ≠ z ∧ mFind E2 (aT l j) = none ∧ aR l F j ≠ 0) → rcJ l F z v (j + 1) (E, Q) = (E2, Q2) := fun hj hc => by rw [hst hj, rcA, if_neg hc]
    have hgo : j < 2 * l.length → aF l j = v → aT l j ≠ z → mFind E2 (aT l j) = none → aR l F j ≠ 0 → rcJ l F z v (j + 1) (E, Q) = (mSet E2 (aT l j) j, Q2 ++ [aT l j]) := fun hj h1 h2 h3 h4 => by rw [hst hj, rcA, if_pos ⟨h1, h2, h3, h4⟩]
    by_cases hjm : j < 2 * l.length
    · have hD2 : (D' ++ Q2).length = D'.length + Q2.length := List.length_append
      have har := ok.arc hF hjm
      have c1 := room_ok ok hF hjm
      have hkk : ((j : Nat) : Int).toNat = j := Int.toNat_natCast j
      cases hf : mFind E2 (aT l j) with
      | none =>
        repeat' (first | (refine SS_ ?_) | (refine Seq.val (look2N_ok (K := KI) (V := arcA l) (l := E2) (k := aT l j) tt_ok (by rfl) u_ent keyI (z_arc _ rfl) (by rfl) (by rfl) (by rfl) hf rfl) (by rfl) (by rfl) ?_) | (refine Seq.callo false [] [] (.int .i64 (aR l F j)) (nH n l F) 6 (c1) Try.func47 GOk.nil subG.nil (by rfl) (by rfl) rfl rfl rfl rfl rfl (by rfl) rfl (by rfl) (by rfl) (by rfl) (by rfl) VW_ NI_ R_ (noFrL_ok NI_) BK_ ?_) | (refine Seq.eff (mapUpdate_ok (K := KI) (V := arcA l) (u := j) (l := E2) (k := aT l j) u_ent keyI (by rfl) (by rfl) (by rfl) (by rfl)) (by rfl) (by rfl) ?_) | (refine Seq.appL (G := fun i : Int => .int .i64 i) (z0 := 0) D' Q2 (aT l j) tt_ok (by rfl) (by rfl) (by rfl) (by rfl) (by rfl) (by rfl) (by rfl) (by rfl) (by rfl) (by rfl) (by rfl) (by rfl) (by (first | exact trivial | exact u8_in _ rfl | exact u32_in _ rfl | ((with_reducible refine AllP.guard ?_); simp only [AllP, inI, fitV, maxK, inK, inbL, inb, List.append, List.cons_append, List.nil_append, true_and, and_true]; first | done | omega))) (by rfl) (by rfl) (by decide) (by omega) (by show (_ + 1) * 8 ≤ _; omega) (by rfl) (by rfl) (by rfl) (fun D'' => ?_)) | (refine VC.litT (by rfl) LTR_ ?_) | (refine Seq.litC (by rfl) (by rfl) (fun hb => ?_) (fun hb => ?_) <;> (fail_if_success (with_reducible have := litT_ hb)) <;> (fail_if_success (with_reducible have := litF_ hb)) <;> (try simp only [HB_] at hb) <;> (try (exfalso; first | omega | (cases hb; done)))) | (refine VC.cond (by rfl) (fun hb => ?_) (fun hb => ?_) <;> (fail_if_success (with_reducible have := litT_ hb)) <;> (fail_if_success (with_reducible have := litF_ hb)) <;> (try simp only [HB_] at hb) <;> (try (exfalso; first | omega | (cases hb; done)))) | fail)
        · refine ⟨(j + 1, D'), by show j + 1 ≤ _; omega, by show _ - (j + 1) < _ - j; omega, ?_⟩
          rw [hkk] at hb
          rw [hskip hjm (fun h => hb h.1)]
          exact (Sim.less [] (by rfl) R_ R_)
        · refine ⟨(j + 1, D'), by show j + 1 ≤ _; omega, by show _ - (j + 1) < _ - j; omega, ?_⟩
          rw [hkk] at hb
          rw [hskip hjm (fun h => h.2.1 hb)]
          exact (Sim.less [] (by rfl) R_ R_)
        · refine ⟨(j + 1, D'), by show j + 1 ≤ _; omega, by show _ - (j + 1) < _ - j; omega, ?_⟩
          rw [hskip hjm (fun h => h.2.2.2 hb)]
          exact (Sim.less [] (by rfl) R_ R_)
        · refine ⟨(j + 1, D''), by show j + 1 ≤ _; omega, by show _ - (j + 1) < _ - j; omega, ?_⟩
          rename_i h4 h5
          rw [hkk] at h4 h5
          rw [hgo hjm (by omega) h5 hf hb]
          show ∀ a w, _ → Sim _ ⟨[(28, .int .i64 ((j + 1 : Nat) : Int)), (27, .int .i64 (2 * l.length : Nat)), (26, .rsl false (2 * l.length) 5 (arcA l)), (7, .int .i64 v), (6, .sl 3 [] 1 D''.length (Q2 ++ [aT l j]).length), (5, .mp 2), (1, .int .i64 z), (0, .ptr 0 [])], (3, .arr (D'' ++ (Q2 ++ [aT l j])).length 1 (fun i => .int .i64 ((D'' ++ (Q2 ++ [aT l j])).getD i 0))) :: (2, entO l (mSet E2 (aT l j) j)) :: nH n l F, [], 4⟩ a w
          rw [show (Q2 ++ [aT l j]).length = Q2.length + 1 by simp]
          exact (Sim.less [(3, 7)] (by rfl) R_ R_)
      | some x =>
        repeat' (first | (refine SS_ ?_) | (refine Seq.val (look2S_ok (K := KI) (V := arcA l) (l := E2) (k := aT l j) (u := x) tt_ok (by rfl) u_ent keyI (z_arc _ rfl) (by rfl) (by rfl) (by rfl) hf) (by rfl) (by rfl) ?_) | (refine VC.litT (by rfl) LTR_ ?_) | (refine Seq.litC (by rfl) (by rfl) (fun hb => ?_) (fun hb => ?_) <;> (fail_if_success (with_reducible have := litT_ hb)) <;> (fail_if_success (with_reducible have := litF_ hb)) <;> (try simp only [HB_] at hb) <;> (try (exfalso; first | omega | (cases hb; done)))) | fail)
        all_goals
          refine ⟨(j + 1, D'), by show j + 1 ≤ _; omega, by show _ - (j + 1) < _ - j; omega, ?_⟩
          rw [hskip hjm (fun h => by rw [hf] at h; cases h.2.2.1)]
          exact (Sim.less [] (by rfl) R_ R_)
    · obtain rfl : j = 2 * l.length := by omega
      rw [hr] at g2 g3
      repeat' (first | (refine SS_ ?_) | (refine VC.litF (by rfl) LFA_ ?_) | fail)
      refine ⟨(q, E2, Q2, D'), ⟨g2, by show n + Q2.length ≤ q + E2.length; simp at h2; omega, by show q ≤ n + 1; omega, ?_⟩, by show q < q + 1; omega, ?_⟩
      · rw [← h3, ← hr]; rfl
      · exact (Sim.less [] (by rfl) R_ R_)
end Go.Proofs.Ytkpidpmlehkjbaa
