/- Flow: Cut of the reference. Flow: what the package and the reference give; certificates and sets that are accepted. Plain. -/
import Derived.Test.YtkpidpmlehkjbaaZh
import Derived.Test.YtkpidpmlehkjbaaZd
import Derived.Test.YtkpidpmlehkjbaaWu
set_option linter.unusedSimpArgs false
set_option linter.unusedVariables false
namespace Go.Fl
def ovIn (s : Int → Bool) : List Ed → Int
  | e :: l => (if s e.b && !s e.a then e.lo else 0) + ovIn s l
  | [] => 0
def ovOut (s : Int → Bool) : List Ed → Int
  | e :: l => (if s e.a && !s e.b then e.hi else 0) + ovOut s l
  | [] => 0
theorem ov_sub (s : Int → Bool) : ∀ l, over s l = ovIn s l - ovOut s l
  | [] => rfl
  | e :: l => by
    rw [over, ovIn, ovOut, ov_sub s l]; omega
theorem ovIn_app {s : Int → Bool} {k : List Ed} : ∀ {l : List Ed}, ovIn s (l ++ k) = ovIn s l + ovIn s k
  | [] => by show ovIn s k = 0 + ovIn s k; omega
  | e :: l => by
    show (if s e.b && !s e.a then e.lo else 0) + ovIn s (l ++ k) = (if s e.b && !s e.a then e.lo else 0) + ovIn s l + ovIn s k
    rw [ovIn_app]; omega
theorem ovOut_app {s : Int → Bool} {k : List Ed} : ∀ {l : List Ed}, ovOut s (l ++ k) = ovOut s l + ovOut s k
  | [] => by show ovOut s k = 0 + ovOut s k; omega
  | e :: l => by
    show (if s e.a && !s e.b then e.hi else 0) + ovOut s (l ++ k) = (if s e.a && !s e.b then e.hi else 0) + ovOut s l + ovOut s k
    rw [ovOut_app]; omega
theorem ovIn_step {s : Int → Bool} {l : List Ed} {k : Nat} (hk : k < l.length) : ovIn s (l.take (k + 1)) = ovIn s (l.take k) + (if s (l.getD k edZ).b && !s (l.getD k edZ).a then (l.getD k edZ).lo else 0) := by
  rw [Go.Lx.take_snoc (d := edZ) hk, ovIn_app]
  show _ + (_ + 0) = _
  omega
theorem ovOut_step {s : Int → Bool} {l : List Ed} {k : Nat} (hk : k < l.length) : ovOut s (l.take (k + 1)) = ovOut s (l.take k) + (if s (l.getD k edZ).a && !s (l.getD k edZ).b then (l.getD k edZ).hi else 0) := by
  rw [Go.Lx.take_snoc (d := edZ) hk, ovOut_app]
  show _ + (_ + 0) = _
  omega
theorem ov_bd {n : Nat} {l : List Ed} (ok : NetOk n l) (s : Int → Bool) : ∀ k : Nat, k ≤ l.length → 0 ≤ ovIn s (l.take k) ∧ ovIn s (l.take k) ≤ 1000 * (k : Int) ∧ 0 ≤ ovOut s (l.take k) ∧ ovOut s (l.take k) ≤ 1000 * (k : Int)
  | 0, _ => by rw [List.take_zero]; show 0 ≤ (0 : Int) ∧ (0 : Int) ≤ 1000 * ((0 : Nat) : Int) ∧ 0 ≤ (0 : Int) ∧ (0 : Int) ≤ 1000 * ((0 : Nat) : Int); omega
  | k + 1, hk => by
    have ih := ov_bd ok s k (by omega)
    have he := ok.get (k := k) (by omega)
    rw [ovIn_step (by omega), ovOut_step (by omega)]
    generalize l.getD k edZ = e at *
    cases s e.a <;> cases s e.b <;> simp <;> omega
end Go.Fl
namespace Go.Proofs.Ytkpidpmlehkjbaa
open Go.V Go.RowKit Go.L Go.Lx Go.Fl
set_option maxRecDepth 10000
set_option maxHeartbeats 4000000
theorem rcut_ok (n : Int) (l : List Ed) (S : List Int) (hl : l.length ≤ 9223372036854775806) (hS : S.length ≤ 9223372036854775806) : Ok Try.prog 22 [] [] (.pair (.int .i64 n) (.pair (edV l) (.pair (liV S) .nul))) (fun r h' => r = .int .i64 (cutE n l S) ∧ h' = []) := by
  have c1 := rgiven_ok n l (by omega)
  by_cases hg : givenE n l = 0
  · rw [hg] at c1
    obtain ⟨h0, ok, hl256⟩ := given_net hg
    have hn64 := ok.n64
    obtain ⟨m, rfl⟩ : ∃ m : Nat, n = m := ⟨n.toNat, by omega⟩
    rw [Int.toNat_natCast] at *
    refine Ok.of_vcC tt_ok Try.func22 rfl rfl (by show 3 ≤ _; decide) 0 (hlt_ok (by rfl)) fun c0 => ?_
    repeat' (first | (refine SS_ ?_) | (refine Seq.callp false (c1) Try.func27 GOk.nil subG.nil (by rfl) (by rfl) rfl rfl rfl rfl rfl (by rfl) rfl VW_ NI_ NI_ FR_ ?_) | (refine VC.litF (by rfl) LFA_ ?_) | fail)
    refine VC.loop (fun k : Nat => ⟨[(8, .int .i64 (k : Nat)), (2, liV S), (1, edV l), (0, .int .i64 (m : Nat))], [], [], 0⟩) (fun k => k ≤ S.length ∧ ∀ j, j < k → okAt m S j) (fun k => S.length - k) 0 ⟨by omega, fun j hj => absurd hj (Nat.not_lt_zero _)⟩ (Sim.less [] (by rfl) R_ R_) fun k hk => ?_
    obtain ⟨hk, hall⟩ := hk
    by_cases hkl : k < S.length
    · have hkk : ((k : Nat) : Int).toNat = k := Int.toNat_natCast k
      have hmk : (max (((k : Nat) : Int) - 1) 0).toNat = k - 1 := by omega
      have hok : okAt m S k ↔ 0 ≤ S.getD ((k : Nat) : Int).toNat 0 ∧ S.getD ((k : Nat) : Int).toNat 0 < m ∧ (0 < k → S.getD (max (((k : Nat) : Int) - 1) 0).toNat 0 < S.getD ((k : Nat) : Int).toNat 0) := by rw [hkk, hmk]; exact Iff.rfl
      repeat' (first | (refine SS_ ?_) | (refine VC.drawm (id := 7) [(0, 0), (1, 0), (2, 3), (3, 7), (4, 15), (5, 31), (6, 63), (7, 63), (8, 255), (9, 511), (10, 63), (11, 2047), (12, 4095), (13, 8191), (14, 16383), (15, 32767), (16, 65535), (17, 131071), (18, 131071), (19, 524287), (20, 1048575), (21, 131071), (22, 131071), (23, 4325375), (24, 12713983), (25, 31588351), (26, 65142783), (27, 134217727), (28, 268435455), (29, 536870911)] [] (by rfl) (by kernel_rfl) (by rfl) ?_) | (refine DSeq.val (by rfl) (fastE (by rfl)) (fastH (by rfl)) (max_ok (by rfl) (by rfl)) (by rfl) (by rfl) ?_) | (refine VC.litT (by rfl) LTR_ ?_) | (refine VC.litF (by rfl) LFA_ ?_) | (refine DD_ ?_) | (refine VC.cond (by rfl) (fun hb => ?_) (fun hb => ?_) <;> (fail_if_success (with_reducible have := litT_ hb)) <;> (fail_if_success (with_reducible have := litF_ hb)) <;> (try simp only [HB_] at hb) <;> (try (exfalso; first | omega | (cases hb; done)))) | (refine DSeq.litC2 (by rfl) (by rfl) (by rfl) (by rfl) (by rfl) (fun hb => ?_) (fun hb => ?_) <;> (fail_if_success (with_reducible have := litT_ hb)) <;> (fail_if_success (with_reducible have := litF_ hb)) <;> (try simp only [HB_] at hb) <;> (try (exfalso; first | omega | (cases hb; done)))) | fail)
      all_goals first | (refine ⟨k + 1, ⟨by omega, fun j hj => ?_⟩, by omega, ?_⟩; (by_cases e : j = k; (rw [e]; exact hok.2 ⟨by omega, by omega, fun _ => by omega⟩); exact hall j (by omega)); (exact (Sim.less [] (by rfl) R_ R_)); done) | (rw [cut_no hg (fun h => by have := hok.1 (h.i k hkl); omega)]; (refine retC_mk ([(6, .int .i64 15)]) ([]) 0 (Sim.less [] (by rfl) R_ R_) (retQ_ok (by rfl) ([]) (fun i av h => h) ⟨?_, ?_⟩)) <;> rfl; done) | fail
    · obtain rfl : k = S.length := by omega
      have hchk : cutE m l S = if 0 < over (inS S) l then 0 else 15 := by
        by_cases h : 0 < over (inS S) l
        · rw [if_pos h]; exact cut_yes hg ⟨hall, h⟩
        · rw [if_neg h]; exact cut_no hg fun hc => h hc.o
      rw [hchk, ov_sub]
      have hh : ∀ x, Ok Try.prog 39 [] [] (.pair (liV S) (.pair (.int .i64 x) .nul)) (fun r h' => r = .bool (inS S x) ∧ h' = []) := fun x => has_ok S hS x
      generalize inS S = s at *
      repeat' (first | (refine SS_ ?_) | (refine VC.litF (by rfl) LFA_ ?_) | fail)
      refine VC.loop (fun k : Nat => ⟨[(11, .int .i64 (k : Nat)), (10, .int .i64 (ovOut s (l.take k))), (9, .int .i64 (ovIn s (l.take k))), (2, liV S), (1, edV l)], [], [], 0⟩) (fun k => k ≤ l.length) (fun k => l.length - k) 0 (by omega) (by
        show ∀ a w, _ → Sim _ ⟨[(11, .int .i64 ((0 : Nat) : Int)), (10, .int .i64 0), (9, .int .i64 0), (2, liV S), (1, edV l)], [], [], 0⟩ a w
        exact (Sim.less [] (by rfl) R_ R_)) fun k hk => ?_
      have hbd := ov_bd ok s k hk
      by_cases hkl : k < l.length
      · have hkk : ((k : Nat) : Int).toNat = k := Int.toNat_natCast k
        have he := ok.get hkl
        have h1 := ovIn_step (s := s) hkl
        have h2 := ovOut_step (s := s) hkl
        rw [← hkk] at he
        rw [show l.getD k edZ = (l.getD ((k : Nat) : Int).toNat edZ) by rw [hkk]] at h1 h2
        have c2 := hh (l.getD ((k : Nat) : Int).toNat edZ).a
        have c3 := hh (l.getD ((k : Nat) : Int).toNat edZ).b
        generalize ovIn s (l.take k) = ov at *
        generalize ovOut s (l.take k) = ow at *
        generalize s (l.getD ((k : Nat) : Int).toNat edZ).b = A at *
        generalize s (l.getD ((k : Nat) : Int).toNat edZ).a = B at *
        cases A <;> cases B
        all_goals
          simp only [Bool.not_true, Bool.not_false, Bool.and_self, Bool.and_true, Bool.and_false, Bool.false_and, Bool.true_and, if_true, if_false, Bool.false_eq_true] at h1 h2
          repeat' (first | (refine SS_ ?_) | (refine Seq.callp false (c2) Try.func39 GOk.nil subG.nil (by rfl) (by rfl) rfl rfl rfl rfl rfl (by rfl) rfl VW_ NI_ NI_ FR_ ?_) | (refine Seq.callp false (c3) Try.func39 GOk.nil subG.nil (by rfl) (by rfl) rfl rfl rfl rfl rfl (by rfl) rfl VW_ NI_ NI_ FR_ ?_) | (refine VC.litT (by rfl) LTR_ ?_) | (refine VC.litF (by rfl) LFA_ ?_) | fail)
        all_goals
          refine ⟨k + 1, by omega, by omega, ?_⟩
          show ∀ a w, _ → Sim _ ⟨[(11, .int .i64 ((k + 1 : Nat) : Int)), (10, .int .i64 (ovOut s (l.take (k + 1)))), (9, .int .i64 (ovIn s (l.take (k + 1)))), (2, liV S), (1, edV l)], [], [], 0⟩ a w
          rw [h1, h2]
          exact (Sim.less [] (by rfl) R_ R_)
          all_goals omega
      · obtain rfl : k = l.length := by omega
        rw [List.take_of_length_le (Nat.le_refl _)] at hbd ⊢
        repeat' (first | (refine SS_ ?_) | (refine VC.litF (by rfl) LFA_ ?_) | (refine VC.cond (by rfl) (fun hb => ?_) (fun hb => ?_) <;> (fail_if_success (with_reducible have := litT_ hb)) <;> (fail_if_success (with_reducible have := litF_ hb)) <;> (try simp only [HB_] at hb) <;> (try (exfalso; first | omega | (cases hb; done)))) | fail)
        all_goals first | (rw [if_pos (by omega)]; (refine retC_mk ([(6, .int .i64 0)]) ([]) 0 (Sim.less [] (by rfl) R_ R_) (retQ_ok (by rfl) ([]) (fun i av h => h) ⟨?_, ?_⟩)) <;> rfl; done) | (rw [if_neg (by omega)]; (refine retC_mk ([(6, .int .i64 15)]) ([]) 0 (Sim.less [] (by rfl) R_ R_) (retQ_ok (by rfl) ([]) (fun i av h => h) ⟨?_, ?_⟩)) <;> rfl; done) | fail
  · rw [cutE, if_pos hg]
    generalize givenE n l = e at *
    refine Ok.of_vcC tt_ok Try.func22 rfl rfl (by show 3 ≤ _; decide) 0 (hlt_ok (by rfl)) fun c0 => ?_
    repeat' (first | (refine SS_ ?_) | (refine Seq.callp false (c1) Try.func27 GOk.nil subG.nil (by rfl) (by rfl) rfl rfl rfl rfl rfl (by rfl) rfl VW_ NI_ NI_ FR_ ?_) | (refine VC.litT (by rfl) LTR_ ?_) | fail)
    (refine retC_mk ([(6, .int .i64 e)]) ([]) 0 (Sim.less [] (by rfl) R_ R_) (retQ_ok (by rfl) ([]) (fun i av h => h) ⟨?_, ?_⟩)) <;> rfl
end Go.Proofs.Ytkpidpmlehkjbaa

namespace Go.Fl
open Go.V (mFind mSet)
theorem lst_cases {n : Nat} {l : List Ed} (ok : NetOk n l) (hl : l.length ≤ 256) (hg : givenE n l = 0) :
    (∃ F, lst n l = ⟨F, (List.range n).map (lvs n l F).lev, [], 0⟩ ∧ inB l F ∧ circ n l F ∧ (lvs n l F).last < 0) ∨ ∃ F v, lst n l = ⟨[], [], blkL n l F v, 14⟩ ∧ v < n ∧ 0 < over (blkS n l F v) l := by
  have hn := ok.nodes
  have hlo : inB l (los l) := los_in fun e he => (ok.ed e he).2.2.2.2.2.1
  rw [lst, if_neg (by simp [hg]), Int.toNat_natCast, lstO]
  have hb := bln_ok hn (fq n l) hlo (by unfold fq; have := exc_nn n l (los l); omega)
  cases hbb : bln n l (fq n l) (los l) with
  | mk F r =>
    rw [hbb] at hb
    obtain ⟨b1, b2⟩ := hb
    rcases b2 with ⟨b2, b3⟩ | ⟨v, b2, b3, b4⟩
    · have b2 : r = none := b2
      subst b2
      have b1 : inB l F := b1
      have b3 : circ n l F := b3
      obtain ⟨c1, c2, c3⟩ := can_ok (m := 1000) (by omega) hn (B := (l.length : Int) * 1000000) (fun F hF => (ok.cost hF).1) (fc l) b1 b3 (by
        have := (ok.cost b1).2
        show cost l F + (l.length : Int) * 1000000 < ((2 * (l.length * 1000000) + 1 : Nat) : Int)
        omega)
      exact .inl ⟨_, rfl, c1, c2, c3⟩
    · have b2 : r = some v := b2
      subst b2
      exact .inr ⟨F, v, rfl, b3, b4⟩
theorem lev_slack {n : Nat} {l : List Ed} {F : List Int} (hn : nodes n l) (hF : inB l F) (hl : (lvs n l F).last < 0) : slack (fun v => (lvs n l F).lev v.toNat) l F := by
  obtain ⟨t, h⟩ := inv_rnds (netOk F hn) n
  exact slack_of hn (inB_iff.1 hF).1 fun y hy ho => still (netOk F hn) h hl y hy (decide_eq_true ho)
/-- A circulation that the levels show costs the least. -/
theorem lst_least {n : Nat} {l : List Ed} {F G : List Int} (hn : nodes n l) (hF : inB l F) (hc : circ n l F) (hl : (lvs n l F).last < 0) (hG : inB l G) (hd : circ n l G) : cost l F ≤ cost l G := least hn hF hc (lev_slack hn hF hl) hG hd
theorem lev_get {n : Nat} {g : Nat → Int} {v : Nat} (h : v < n) : ((List.range n).map g).getD v 0 = g v := by
  rw [List.getD_eq_getElem?_getD, List.getElem?_map, List.getElem?_range h]; rfl
theorem lst_chk {n : Nat} {l : List Ed} {F : List Int} (ok : NetOk n l) (hg : givenE n l = 0) (hF : inB l F) (hc : circ n l F) (hl : (lvs n l F).last < 0) : chkE n l F ((List.range n).map (lvs n l F).lev) = 0 := by
  have hn := ok.nodes
  have hlen := (inB_iff.1 hF).1
  have hs := (slack_iff hlen).1 (lev_slack hn hF hl)
  rw [chkE, if_neg (by simp [hg]), if_pos]
  refine ⟨hlen, by rw [List.length_map, List.length_range], List.any_eq_false.2 fun x hx => ?_, fun k hk => ?_, fun v hv => hc v (by rw [Int.toNat_natCast] at hv; exact hv)⟩
  · obtain ⟨v, hv, rfl⟩ := List.mem_map.1 hx
    have hv := List.mem_range.1 hv
    have hN := netOk F hn
    have hb := rls_bd (F := F) ok (Nat.le_refl n) (Nat.le_refl (2 * l.length)) v hv
    have hb : -40000000 ≤ (lvs n l F).lev v ∧ (lvs n l F).lev v ≤ 0 := hb
    unfold farP
    rw [decide_eq_true_eq]
    omega
  · have h1 := (inB_iff.1 hF).2 k hk
    have h2 := hs k hk
    have h3 := ok.get hk
    unfold edAt edOk
    rw [lev_get (by omega), lev_get (by omega)]
    omega
theorem over_congr {s t : Int → Bool} : ∀ {l : List Ed}, (∀ e ∈ l, s e.a = t e.a ∧ s e.b = t e.b) → over s l = over t l
  | [], _ => rfl
  | e :: l, h => by
    obtain ⟨h1, h2⟩ := h e (by simp)
    rw [over, over, over_congr fun x hx => h x (by simp [hx]), h1, h2]
theorem lst_cut {n : Nat} {l : List Ed} {F : List Int} {v : Nat} (ok : NetOk n l) (hg : givenE n l = 0) (ho : 0 < over (blkS n l F v) l) : cutE n l (blkL n l F v) = 0 := by
  have p2 : (blkL n l F v).Pairwise (· < ·) := by
    unfold blkL
    exact (List.pairwise_lt_range.filter _).map _ fun a b h => by omega
  have hmem : ∀ w : Int, w ∈ blkL n l F v ↔ 0 ≤ w ∧ w < n ∧ blkS n l F v w = true := fun w => by
    unfold blkL
    rw [List.mem_map]
    constructor
    · rintro ⟨u, hu, rfl⟩
      obtain ⟨h1, h2⟩ := List.mem_filter.1 hu
      have := List.mem_range.1 h1
      exact ⟨by omega, by omega, h2⟩
    · rintro ⟨h1, h2, h3⟩
      exact ⟨w.toNat, List.mem_filter.2 ⟨List.mem_range.2 (by omega), by rw [Int.toNat_of_nonneg h1]; exact h3⟩, by omega⟩
  refine cut_yes hg ⟨fun k hk => ?_, ?_⟩
  · have hm := (hmem _).1 (Go.Lx.getD_mem (d := (0 : Int)) hk)
    refine ⟨hm.1, hm.2.1, fun h0 => ?_⟩
    have := List.pairwise_iff_getElem.1 p2 (k - 1) k (by omega) hk (by omega)
    rw [List.getD_eq_getElem?_getD, List.getD_eq_getElem?_getD, List.getElem?_eq_getElem (show k - 1 < (blkL n l F v).length by omega), List.getElem?_eq_getElem hk]
    exact this
  · rw [over_congr (t := blkS n l F v) fun e he => ?_]
    · exact ho
    · have h := ok.ed e he
      have key : ∀ w : Int, 0 ≤ w → w < n → inS (blkL n l F v) w = blkS n l F v w := fun w h1 h2 => by
        unfold inS
        cases hb : blkS n l F v w
        · exact decide_eq_false fun hm => by rw [((hmem w).1 hm).2.2] at hb; cases hb
        · exact decide_eq_true ((hmem w).2 ⟨h1, h2, hb⟩)
      exact ⟨key _ (by omega) (by omega), key _ (by omega) (by omega)⟩
end Go.Fl
