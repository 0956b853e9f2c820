/- Flow: pushes along arcs. Flow: the network that is made. -/
import Derived.Test.YtkpidpmlehkjbaaWo
set_option linter.unusedSimpArgs false
set_option linter.unusedVariables false
namespace Go.Fl
theorem room_cons {l : List Ed} {F : List Int} {m : Int} {x : Nat} {P : List Nat} : room l F m (x :: P) = room l F (min m (aR l F x)) P := rfl
end Go.Fl
namespace Go.Proofs.Ytkpidpmlehkjbaa
open Go.V Go.RowKit Go.L Go.Lx Go.Fl
set_option maxRecDepth 10000
set_option maxHeartbeats 4000000
abbrev KI (n : Int) : AV := .int .i64 n
def kvI (n : Int) : Value := .int .i64 n
theorem u_intI : Try.prog.underlying 3 = some (.int .i64) := by kernel_rfl
theorem u_ent : Try.prog.underlying 66 = some (.map 3 83) := by kernel_rfl
theorem z_arc : ∀ ti, tget TT 83 = some ti → zB Try.prog 83 ti = true := by
  intro ti h
  cases h
  kernel_rfl
theorem keyI : KeyK Try.prog 3 KI kvI := key_int u_intI
theorem p1a_ok {n : Nat} {l : List Ed} {F : List Int} (ok : NetOk n l) (hF : inB l F) (E : List (Int × Nat)) (z w m : Int) (P : List Nat) (hA : Along l E z w P) (hP : ∀ x ∈ P, x < 2 * l.length) : Ok Try.prog 48 [] (pH n l F E z w m) (.pair p2F (.pair (.ptr 6 []) (.pair (.ptr 4 []) (.pair (.ptr 5 []) .nul)))) (fun r h' => r = .tup .nul ∧ h' = pH n l F E z w (room l F m P)) := by
  refine Ok.of_vcC tt_ok Try.func48 rfl rfl (by show 4 ≤ _; decide) 8 (hlt_ok (by rfl)) fun c0 => ?_
  repeat' (first | (refine SS_ ?_) | fail)
  refine VC.loop (fun k : Int × Int × List Nat => ⟨[(5, .int .i64 k.1), (3, .ptr 5 []), (2, .ptr 4 []), (1, .ptr 6 []), (0, p2F)], pH n l F E z w k.2.1, [], 8⟩) (fun k => Along l E z k.1 k.2.2 ∧ (∀ x ∈ k.2.2, x < 2 * l.length) ∧ room l F k.2.1 k.2.2 = room l F m P) (fun k => k.2.2.length) (w, m, P) ⟨hA, hP, rfl⟩ (Sim.less [] (by rfl) R_ R_) fun k hk => ?_
  obtain ⟨v, u, R⟩ := k
  obtain ⟨h1, h2, h3⟩ := hk
  have h1 : Along l E z v R := h1
  cases R with
  | nil => exact h1.elim
  | cons x R =>
    have hf : mFind E v = some x := h1.1
    have hx := h2 x (by simp)
    have h3 : room l F u (x :: R) = room l F m P := h3
    have c1 := p2_ok ok hF hx E z w u
    rw [room_cons] at h3
    generalize min u (aR l F x) = u2 at *
    repeat' (first | (refine SS_ ?_) | (refine Seq.val (lookS_ok (K := KI) (V := arcA l) (l := E) (k := v) (u := x) tt_ok (by rfl) u_ent keyI (z_arc _ rfl) (by rfl) (by rfl) (by rfl) hf) (by rfl) (by rfl) ?_) | (refine Seq.callo false [] [] (.tup .nul) (pH n l F E z w u2) 9 (c1) Try.func49 GOk.nil subG.nil (by rfl) (by rfl) rfl rfl rfl rfl rfl (by rfl) rfl (by rfl) (by rfl) (by rfl) (by rfl) VW_ NI_ R_ (noFrL_ok NI_) BK_ ?_) | (refine VC.cond (by rfl) (fun hb => ?_) (fun hb => ?_) <;> (fail_if_success (with_reducible have := litT_ hb)) <;> (fail_if_success (with_reducible have := litF_ hb)) <;> (try simp only [HB_] at hb) <;> (try (exfalso; first | omega | (cases hb; done)))) | fail)
    · rcases h1.2 with ⟨rfl, _⟩ | ⟨_, hne, _⟩
      · rw [← h3]
        (refine retC_mk ([]) (pH n l F E z w u2) 9 (Sim.less [] (by rfl) R_ R_) (retQ_ok (by rfl) (pH n l F E z w u2) (fun i av h => h) ⟨?_, ?_⟩)) <;> rfl
      · exact absurd hb hne
    · rcases h1.2 with ⟨_, he⟩ | ⟨_, _, hr⟩
      · exact absurd he hb
      · refine ⟨(aF l x, u2, R), ⟨hr, fun y hy => h2 y (List.mem_cons_of_mem _ hy), h3⟩, by simp, ?_⟩
        exact (Sim.less [] (by rfl) R_ R_)
theorem p1b_ok {n : Nat} {l : List Ed} {F : List Int} (hF : inB l F) (E : List (Int × Nat)) (z w d : Int) (P : List Nat) (hd : 0 ≤ d ∧ d ≤ 1000) (ok : NetOk n l) (hA : Along l E z w P) (hP : ∀ x ∈ P, x < 2 * l.length ∧ d ≤ aR l F x) (hN : (P.map (· / 2)).Nodup) : Ok Try.prog 48 [] (pH n l F E z w d) (.pair p3F (.pair (.ptr 6 []) (.pair (.ptr 4 []) (.pair (.ptr 5 []) .nul)))) (fun r h' => r = .tup .nul ∧ h' = pH n l (pus d F P) E z w d) := by
  refine Ok.of_vcC tt_ok Try.func48 rfl rfl (by show 4 ≤ _; decide) 8 (hlt_ok (by rfl)) fun c0 => ?_
  repeat' (first | (refine SS_ ?_) | fail)
  refine VC.loop (fun k : Int × List Int × List Nat => ⟨[(5, .int .i64 k.1), (3, .ptr 5 []), (2, .ptr 4 []), (1, .ptr 6 []), (0, p3F)], pH n l k.2.1 E z w d, [], 8⟩) (fun k => Along l E z k.1 k.2.2 ∧ ∃ D, P = D ++ k.2.2 ∧ k.2.1 = pus d F D) (fun k => k.2.2.length) (w, F, P) ⟨hA, [], rfl, rfl⟩ (Sim.less [] (by rfl) R_ R_) fun k hk => ?_
  obtain ⟨v, G, R⟩ := k
  obtain ⟨h1, D, hD, hG⟩ := hk
  have h1 : Along l E z v R := h1
  have hD : P = D ++ R := hD
  replace hG : G = pus d F D := hG
  cases R with
  | nil => exact h1.elim
  | cons x R =>
    have hf : mFind E v = some x := h1.1
    have hx := (hP x (by rw [hD]; simp)).1
    have hGB : inB l G := by
      rw [hG]
      refine inB_pus hF hd.1 (fun y hy => ?_) ?_
      · obtain ⟨q1, q2⟩ := hP y (by rw [hD]; exact List.mem_append_left _ hy)
        exact ⟨by omega, q2⟩
      · rw [hD, List.map_append] at hN
        exact (List.nodup_append.1 hN).1
    have hb1 := (inB_iff.1 hGB).2 (x / 2) (by omega)
    have hb2 := ok.get (k := x / 2) (by omega)
    have c1 := p3_ok (n := n) (l := l) (F := G) (inB_iff.1 hGB).1 hx E z w d (by unfold aS; split <;> omega) (by rw [Int.toNat_natCast, Nat.zero_add]; omega)
    have hG2 : pu d G x = pus d F (D ++ [x]) := by rw [hG, pus, pus, List.foldl_append]; rfl
    generalize pu d G x = G2 at *
    repeat' (first | (refine SS_ ?_) | (refine Seq.val (lookS_ok (K := KI) (V := arcA l) (l := E) (k := v) (u := x) tt_ok (by rfl) u_ent keyI (z_arc _ rfl) (by rfl) (by rfl) (by rfl) hf) (by rfl) (by rfl) ?_) | (refine Seq.callo false [] [] (.tup .nul) (pH n l G2 E z w d) 9 (c1) Try.func50 GOk.nil subG.nil (by rfl) (by rfl) rfl rfl rfl rfl rfl (by rfl) rfl (by rfl) (by rfl) (by rfl) (by rfl) VW_ NI_ R_ (noFrL_ok NI_) BK_ ?_) | (refine VC.cond (by rfl) (fun hb => ?_) (fun hb => ?_) <;> (fail_if_success (with_reducible have := litT_ hb)) <;> (fail_if_success (with_reducible have := litF_ hb)) <;> (try simp only [HB_] at hb) <;> (try (exfalso; first | omega | (cases hb; done)))) | fail)
    · rcases h1.2 with ⟨rfl, _⟩ | ⟨_, hne, _⟩
      · rw [show pus d F P = G2 by rw [hD, hG2]]
        (refine retC_mk ([]) (pH n l G2 E z w d) 9 (Sim.less [] (by rfl) R_ R_) (retQ_ok (by rfl) (pH n l G2 E z w d) (fun i av h => h) ⟨?_, ?_⟩)) <;> rfl
      · exact absurd hb hne
    · rcases h1.2 with ⟨_, he⟩ | ⟨_, _, hr⟩
      · exact absurd he hb
      · refine ⟨(aF l x, G2, R), ⟨hr, D ++ [x], by rw [hD]; simp, hG2⟩, by simp, ?_⟩
        exact (Sim.less [] (by rfl) R_ R_)
/-- A push: the most that all arcs can take. -/
theorem push_ok {n : Nat} {l : List Ed} {F : List Int} (ok : NetOk n l) (hF : inB l F) (E : List (Int × Nat)) (z w m : Int) (P : List Nat) (h0 : 0 ≤ room l F m P) (hA : Along l E z w P) (hP : ∀ x ∈ P, x < 2 * l.length) (hN : (P.map (· / 2)).Nodup) : Ok Try.prog 33 [] [(0, netA n l), (1, liO F), (2, entO l E)] (.pair (.ptr 0 []) (.pair (.mp 2) (.pair (.int .i64 z) (.pair (.int .i64 w) (.pair (.int .i64 m) .nul))))) (fun r h' => r = .int .i64 (room l F m P) ∧ h' = [(0, netA n l), (1, liO (pus (room l F m P) F P)), (2, entO l E)]) := by
  have c1 := p1a_ok ok hF E z w m P hA hP
  obtain ⟨r1, r2, _⟩ := room_le (l := l) (F := F) (P := P) (m := m)
  have hm : room l F m P ≤ 1000 := by
    cases P with
    | nil => exact hA.elim
    | cons x P =>
      have := r2 x (by simp)
      have := ok.arc hF (hP x (by simp))
      omega
  have c2 := p1b_ok (n := n) hF E z w (room l F m P) P ⟨h0, hm⟩ ok hA (fun x hx => ⟨hP x hx, r2 x hx⟩) hN
  generalize room l F m P = d at *
  generalize pus d F P = G at *
  refine Ok.of_vcC tt_ok Try.func33 rfl rfl (by show 5 ≤ _; decide) 3 (hlt_ok (by rfl)) fun c0 => ?_
  repeat' (first | (refine SS_ ?_) | (refine Seq.callo false [] [] (.tup .nul) (pH n l F E z w d) 8 (c1) Try.func48 GOk.nil subG.nil (by rfl) (by rfl) rfl rfl rfl rfl rfl (by rfl) rfl (by rfl) (by rfl) (by rfl) (by rfl) VW_ NI_ R_ (noFrL_ok NI_) BK_ ?_) | (refine Seq.callo false [] [] (.tup .nul) (pH n l G E z w d) 8 (c2) Try.func48 GOk.nil subG.nil (by rfl) (by rfl) rfl rfl rfl rfl rfl (by rfl) rfl (by rfl) (by rfl) (by rfl) (by rfl) VW_ NI_ R_ (noFrL_ok NI_) BK_ ?_) | fail)
  (refine retC_mk ([(10, .int .i64 d)]) ([(0, netA n l), (1, liO G), (2, entO l E)]) 8 (Sim.less [] (by rfl) R_ R_) (retQ_ok (by rfl) ([(0, netA n l), (1, liO G), (2, entO l E)]) (fun i av h => h) ⟨?_, ?_⟩)) <;> rfl
end Go.Proofs.Ytkpidpmlehkjbaa

namespace Go.Proofs.Ytkpidpmlehkjbaa
open Go.V Go.RowKit Go.L Go.Lx Go.Fl
set_option maxRecDepth 10000
set_option maxHeartbeats 4000000
/-- The network while it is made. -/
abbrev mkA (n : Int) (l : List Ed) (m : Nat) : AV := .pair (.int .i64 n) (.pair (edV l) (.pair (.sl 0 [] 1 0 l.length) (.pair (.sl 2 [] 5 0 m) .nul)))
abbrev mkH (n : Int) (l : List Ed) (k m : Nat) : Asc := [(1, mkA n l m), (0, .arr l.length 1 (fun i => .int .i64 (if i < k then (l.getD i edZ).lo else 0))), (2, .arr m 5 (fun i => arcA l i))]
theorem arc_even (l : List Ed) (k : Nat) : arcA l (2 * k) = arcB k (l.getD k edZ).a (l.getD k edZ).b (l.getD k edZ).c 1 := by
  show arcB (2 * k / 2) _ _ _ _ = _
  rw [aF, aT, aC, aS, if_pos (by omega), if_pos (by omega), if_pos (by omega), if_pos (by omega), show 2 * k / 2 = k by omega]
theorem arc_odd (l : List Ed) (k : Nat) : arcA l (2 * k + 1) = arcB k (l.getD k edZ).b (l.getD k edZ).a (-(l.getD k edZ).c) (-1) := by
  show arcB ((2 * k + 1) / 2) _ _ _ _ = _
  rw [aF, aT, aC, aS, if_neg (by omega), if_neg (by omega), if_neg (by omega), if_neg (by omega), show (2 * k + 1) / 2 = k by omega]
theorem made_ok (n : Int) (l : List Ed) (hl : l.length ≤ 257) (hc : ∀ e ∈ l, -1000 ≤ e.c ∧ e.c ≤ 1000) : Ok Try.prog 30 [] [] (.pair (.int .i64 n) (.pair (edV l) .nul)) (fun r h' => r = .ptr 1 [] ∧ h' = mkH n l l.length (2 * l.length)) := by
  refine Ok.of_vcC tt_ok Try.func30 rfl rfl (by show 2 ≤ _; decide) 0 (hlt_ok (by rfl)) fun c0 => ?_
  repeat' (first | (refine SS_ ?_) | fail)
  refine VC.conv (Sim.ghostF 1 3 5 (fun i => arcA l i) (by rfl) (by rfl) (by rfl)) ?_
  refine VC.loop (fun k : Nat => ⟨[(17, .int .i64 (k : Nat)), (16, .int .i64 l.length), (15, edV l), (5, .ptr 1 [])], mkH n l k (2 * k), [], 3⟩) (fun k => k ≤ l.length) (fun k => l.length - k) 0 (by omega) (by
    exact (Sim.less [] (by rfl) R_ R_)
    all_goals rfl) fun k hk => ?_
  by_cases hkl : k < l.length
  · have hcc := hc _ (getD_mem' hkl)
    have hkk : ((k : Nat) : Int).toNat = k := Int.toNat_natCast k
    rw [← hkk] at hcc
    repeat' (first | (refine SS_ ?_) | (refine VC.drawm (id := 5) [(0, 0), (1, 1), (2, 3), (3, 7), (4, 0), (5, 0), (6, 32), (7, 127)] [8] (by rfl) (by kernel_rfl) (by rfl) ?_) | (refine VC.drawE (id := 6) [(0, 0), (1, 0), (2, 2), (3, 6), (4, 14), (5, 0), (6, 0), (7, 64), (8, 0), (9, 256), (10, 0), (11, 1024), (12, 4064), (13, 0), (14, 0), (15, 16384), (16, 0), (17, 65536), (18, 0), (19, 262144), (20, 786432), (21, 2088960), (22, 4194272)] [0] 23 53 [24, 25, 26] (by rfl) (by kernel_rfl) (by rfl) (by rfl) (by rfl) (by rfl) ?_) | (refine DSeq.nil (late_endE true tt_ok (by rfl) (by rfl) (by rfl) (by (first | exact trivial | exact u8_in _ rfl | exact u32_in _ rfl | ((with_reducible refine AllP.guard ?_); simp only [AllP, inI, fitV, maxK, inK, inbL, inb, List.append, List.cons_append, List.nil_append, true_and, and_true]; first | done | omega))) (by rfl) (by rfl) (by repeat (first | exact trivial | refine ⟨trivial, ?_⟩ | refine ⟨lateX (by rfl) (late_evH true tt_ok (by rfl) (by rfl) (by rfl) (by rfl) (by (first | exact trivial | exact u8_in _ rfl | exact u32_in _ rfl | ((with_reducible refine AllP.guard ?_); simp only [AllP, inI, fitV, maxK, inK, inbL, inb, List.append, List.cons_append, List.nil_append, true_and, and_true]; first | done | omega)))), ?_⟩)) (by rfl) ?_)) | (refine VC.litT (by rfl) LTR_ ?_) | (refine DD_ ?_) | fail)
    refine ⟨k + 1, by omega, by omega, ?_⟩
    show ∀ a w, _ → Sim _ ⟨[(17, .int .i64 ((k + 1 : Nat) : Int)), (16, .int .i64 l.length), (15, edV l), (5, .ptr 1 [])], mkH n l (k + 1) (2 * (k + 1)), [], 3⟩ a w
    rw [show 2 * (k + 1) = 2 * k + 2 by omega]
    (refine Sim.less [(2, 5)] (by rfl) ?_ ?_ <;> (repeat' (first | (exact EnvLe.nil) | (exact HeapLe.nil) | (with_reducible apply EnvLe.cons) | (with_reducible apply HeapLe.cons) | ((with_reducible refine RelA.int ?_; first | (refine Keep.mk ?_; first | with_reducible rfl | omega | decide) | skip)) | (exact rfl) | (exact ⟨rfl, rfl⟩) | ((with_reducible refine RelA.rsl ?_; intro i hi)) | ((with_reducible refine RelA.arr ?_; intro i hi)) | (with_reducible refine RelA.pair ?_ ?_) | ((refine RelA.arr ?_; intro i hi)) | fail)) <;> (try with_reducible refine Keep.mk ?_))
    · rw [show 0 + ((k : Nat) : Int).toNat = k by omega]
      by_cases e : i = k
      · subst e
        rw [bif_eq rfl, if_pos (by omega), hkk]
        exact NoId.self NI_
      · rw [bif_ne e]
        show RelA _ _ _ (.int .i64 (if i < k then _ else 0))
        rw [show (if i < k + 1 then (l.getD i edZ).lo else 0) = (if i < k then (l.getD i edZ).lo else 0) by
          by_cases h : i < k
          · rw [if_pos h, if_pos (by omega)]
          · rw [if_neg h, if_neg (by omega)]]
        exact NoId.self NI_
    · by_cases e : i < 2 * k
      · rw [joinF_lt e]
        exact NoId.self NI_
      · rw [joinF_ge (by omega)]
        by_cases e2 : i = 2 * k
        · rw [show i - 2 * k = 0 by omega, e2, arc_even]
          show RelA _ _ _ (arcB k (l.getD ((k : Nat) : Int).toNat edZ).a (l.getD ((k : Nat) : Int).toNat edZ).b (l.getD ((k : Nat) : Int).toNat edZ).c 1)
          rw [hkk]
          exact NoId.self NI_
        · rw [show i - 2 * k = 1 by omega, show i = 2 * k + 1 by omega, arc_odd]
          show RelA _ _ _ (arcB k (l.getD ((k : Nat) : Int).toNat edZ).b (l.getD ((k : Nat) : Int).toNat edZ).a (0 - (l.getD ((k : Nat) : Int).toNat edZ).c) (-1))
          rw [hkk, Int.zero_sub]
          exact NoId.self NI_
  · repeat' (first | (refine SS_ ?_) | (refine VC.litF (by rfl) LFA_ ?_) | fail)
    obtain rfl : k = l.length := by omega
    (refine retC_mk ([(4, .ptr 1 [])]) (mkH n l l.length (2 * l.length)) 3 (Sim.less [] (by rfl) R_ R_) (retQ_ok (by rfl) (mkH n l l.length (2 * l.length)) (fun i av h => h) ⟨?_, ?_⟩)) <;> rfl
end Go.Proofs.Ytkpidpmlehkjbaa
