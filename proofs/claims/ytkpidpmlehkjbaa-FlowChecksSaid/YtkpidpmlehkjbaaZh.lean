/- Flow: Cut, both. -/
import Derived.Test.YtkpidpmlehkjbaaZf
set_option linter.unusedSimpArgs false
set_option linter.unusedVariables false
namespace Go.Fl
def okAt (n : Int) (S : List Int) (k : Nat) : Prop := 0 ≤ S.getD k 0 ∧ S.getD k 0 < n ∧ (0 < k → S.getD (k - 1) 0 < S.getD k 0)
def inS (S : List Int) (v : Int) : Bool := decide (v ∈ S)
structure CutP (n : Int) (l : List Ed) (S : List Int) : Prop where
  i : ∀ k, k < S.length → okAt n S k
  o : 0 < over (inS S) l
noncomputable def cutE (n : Int) (l : List Ed) (S : List Int) : Int := open Classical in if givenE n l ≠ 0 then givenE n l else if CutP n l S then 0 else 15
theorem cut_no {n : Int} {l : List Ed} {S : List Int} (hg : givenE n l = 0) (h : ¬ CutP n l S) : cutE n l S = 15 := by rw [cutE, if_neg (by simp [hg]), if_neg h]
theorem cut_yes {n : Int} {l : List Ed} {S : List Int} (hg : givenE n l = 0) (h : CutP n l S) : cutE n l S = 0 := by rw [cutE, if_neg (by simp [hg]), if_pos h]
def ovO (s : Int → Bool) (e : Ed) : Int := (if s e.b && !s e.a then e.lo else 0) - (if s e.a && !s e.b then e.hi else 0)
theorem over_app {s : Int → Bool} {k : List Ed} : ∀ {l : List Ed}, over s (l ++ k) = over s l + over s k
  | [] => by show over s k = 0 + over s k; omega
  | e :: l => by
    show (if s e.b && !s e.a then e.lo else 0) - (if s e.a && !s e.b then e.hi else 0) + over s (l ++ k) = (if s e.b && !s e.a then e.lo else 0) - (if s e.a && !s e.b then e.hi else 0) + over s l + over s k
    rw [over_app]; omega
theorem over_step {s : Int → Bool} {l : List Ed} {k : Nat} (hk : k < l.length) : over s (l.take (k + 1)) = over s (l.take k) + ovO s (l.getD k edZ) := by
  rw [Go.Lx.take_snoc (d := edZ) hk, over_app]
  show _ + (ovO s _ + 0) = _
  omega
theorem over_bd {n : Nat} {l : List Ed} (ok : NetOk n l) (s : Int → Bool) : ∀ k : Nat, k ≤ l.length → -(1000 * (k : Int)) ≤ over s (l.take k) ∧ over s (l.take k) ≤ 1000 * (k : Int)
  | 0, _ => by rw [List.take_zero]; show -(1000 * ((0 : Nat) : Int)) ≤ 0 ∧ (0 : Int) ≤ 1000 * ((0 : Nat) : Int); omega
  | k + 1, hk => by
    have ih := over_bd ok s k (by omega)
    have he := ok.get (k := k) (by omega)
    rw [over_step (by omega)]
    unfold ovO
    generalize l.getD k edZ = e at *
    cases s e.a <;> cases s e.b <;> simp <;> omega
end Go.Fl
namespace Go.Proofs.Ytkpidpmlehkjbaa
open Go.V Go.RowKit Go.L Go.Lx Go.Fl
set_option maxRecDepth 10000
set_option maxHeartbeats 4000000
theorem cut_ok (n : Int) (l : List Ed) (S : List Int) (hl : l.length ≤ 9223372036854775806) (hS : S.length ≤ 9223372036854775806) : Ok Try.prog 21 [] [] (.pair (.int .i64 n) (.pair (edV l) (.pair (liV S) .nul))) (fun r h' => r = .int .i64 (cutE n l S) ∧ h' = []) := by
  have c1 := given_ok n l (by omega)
  by_cases hg : givenE n l = 0
  · rw [hg] at c1
    obtain ⟨h0, ok, hl256⟩ := given_net hg
    have hn64 := ok.n64
    obtain ⟨m, rfl⟩ : ∃ m : Nat, n = m := ⟨n.toNat, by omega⟩
    rw [Int.toNat_natCast] at *
    refine Ok.of_vcC tt_ok Try.func21 rfl rfl (by show 3 ≤ _; decide) 0 (hlt_ok (by rfl)) fun c0 => ?_
    repeat' (first | (refine SS_ ?_) | (refine Seq.callp false (c1) Try.func29 GOk.nil subG.nil (by rfl) (by rfl) rfl rfl rfl rfl rfl (by rfl) rfl VW_ NI_ NI_ FR_ ?_) | (refine VC.litF (by rfl) LFA_ ?_) | fail)
    refine VC.loop (fun k : Nat => ⟨[(25, .int .i64 (k : Nat)), (24, .int .i64 S.length), (23, liV S), (9, .int .i64 (if k = 0 then -1 else S.getD (k - 1) 0)), (8, .sl 0 [] 1 0 m), (1, edV l), (0, .int .i64 (m : Nat))], [(0, .arr m 1 (fun i => .bool (inS (S.take k) (i : Nat))))], [], 1⟩) (fun k => k ≤ S.length ∧ ∀ j, j < k → okAt m S j) (fun k => S.length - k) 0 ⟨by omega, fun j hj => absurd hj (Nat.not_lt_zero _)⟩ (by
      exact (Sim.less [] (by rfl) R_ R_)) fun k hk => ?_
    obtain ⟨hk, hall⟩ := hk
    by_cases hkl : k < S.length
    · have hkk : ((k : Nat) : Int).toNat = k := Int.toNat_natCast k
      have hok : okAt m S k = (0 ≤ S.getD k 0 ∧ S.getD k 0 < m ∧ (0 < k → S.getD (k - 1) 0 < S.getD k 0)) := rfl
      have hlast : (-1 : Int) ≤ (if k = 0 then -1 else S.getD (k - 1) 0) := by
        by_cases h : k = 0
        · rw [if_pos h]; omega
        · rw [if_neg h]
          have := (hall (k - 1) (by omega)).1
          omega
      have hok2 : okAt m S k ↔ (if k = 0 then (-1 : Int) else S.getD (k - 1) 0) < S.getD ((k : Nat) : Int).toNat 0 ∧ S.getD ((k : Nat) : Int).toNat 0 < m := by
        rw [hok, hkk]
        by_cases h : k = 0
        · rw [if_pos h]; omega
        · rw [if_neg h] at hlast ⊢
          have := (hall (k - 1) (by omega)).1
          omega
      have hnx : S.getD (k + 1 - 1) 0 = S.getD ((k : Nat) : Int).toNat 0 := by rw [hkk, Nat.add_sub_cancel]
      have htk := take_snoc (d := (0 : Int)) hkl
      generalize hla : (if k = 0 then (-1 : Int) else S.getD (k - 1) 0) = la at *
      repeat' (first | (refine SS_ ?_) | (refine VC.litT (by rfl) LTR_ ?_) | (refine Seq.litC (by rfl) (by rfl) (fun hb => ?_) (fun hb => ?_) <;> (fail_if_success (with_reducible have := litT_ hb)) <;> (fail_if_success (with_reducible have := litF_ hb)) <;> (try simp only [HB_] at hb) <;> (try (exfalso; first | omega | (cases hb; done)))) | (refine VC.cond (by rfl) (fun hb => ?_) (fun hb => ?_) <;> (fail_if_success (with_reducible have := litT_ hb)) <;> (fail_if_success (with_reducible have := litF_ hb)) <;> (try simp only [HB_] at hb) <;> (try (exfalso; first | omega | (cases hb; done)))) | fail)
      · rw [cut_no hg (fun h => by have := hok2.1 (h.i k hkl); omega)]
        (refine retC_mk ([(6, .int .i64 15)]) ([]) 1 (Sim.less [] (by rfl) R_ R_) (retQ_ok (by rfl) ([]) (fun i av h => h) ⟨?_, ?_⟩)) <;> rfl
      · rw [cut_no hg (fun h => by have := hok2.1 (h.i k hkl); omega)]
        (refine retC_mk ([(6, .int .i64 15)]) ([]) 1 (Sim.less [] (by rfl) R_ R_) (retQ_ok (by rfl) ([]) (fun i av h => h) ⟨?_, ?_⟩)) <;> rfl
      · refine ⟨k + 1, ⟨by omega, fun j hj => ?_⟩, by omega, ?_⟩
        · by_cases e : j = k
          · rw [e]; exact hok2.2 (by omega)
          · exact hall j (by omega)
        · show ∀ a w, _ → Sim _ ⟨[(25, .int .i64 ((k + 1 : Nat) : Int)), (24, .int .i64 S.length), (23, liV S), (9, .int .i64 (S.getD (k + 1 - 1) 0)), (8, .sl 0 [] 1 0 m), (1, edV l), (0, .int .i64 (m : Nat))], [(0, .arr m 1 (fun i => .bool (inS (S.take (k + 1)) (i : Nat))))], [], 1⟩ a w
          rw [hnx, htk]
          (refine Sim.less [] (by rfl) ?_ ?_ <;> (repeat' (first | (exact EnvLe.nil) | (exact HeapLe.nil) | (with_reducible apply EnvLe.cons) | (with_reducible apply HeapLe.cons) | ((with_reducible refine RelA.int ?_; first | (refine Keep.mk ?_; first | with_reducible rfl | omega | decide) | skip)) | (exact rfl) | (exact ⟨rfl, rfl⟩) | ((with_reducible refine RelA.rsl ?_; intro i hi)) | ((with_reducible refine RelA.arr ?_; intro i hi)) | (with_reducible refine RelA.pair ?_ ?_) | fail)) <;> (try with_reducible refine Keep.mk ?_))
          have hmem : ∀ x : Int, inS (S.take k ++ [S.getD k 0]) x = if x = S.getD k 0 then true else inS (S.take k) x := fun x => by
            unfold inS
            by_cases e : x = S.getD k 0
            · rw [if_pos e]; exact decide_eq_true (by rw [e]; simp)
            · rw [if_neg e]
              apply decide_eq_decide.2
              rw [List.mem_append, List.mem_singleton]
              exact ⟨fun h => h.resolve_right e, .inl⟩
          rw [hmem]
          have hnn : 0 ≤ S.getD ((k : Nat) : Int).toNat 0 := by omega
          rw [hkk] at hnn
          by_cases e : (i : Int) = S.getD k 0
          · rw [if_pos e, bif_eq (by rw [hkk]; omega)]
            exact NoId.self (a := .bool true) NI_
          · rw [if_neg e, bif_ne (by rw [hkk]; omega)]
            exact NoId.self NI_
    · obtain rfl : k = S.length := by omega
      rw [List.take_of_length_le (Nat.le_refl _)]
      repeat' (first | (refine SS_ ?_) | (refine VC.litF (by rfl) LFA_ ?_) | fail)
      have hchk : cutE m l S = if 0 < over (inS S) l then 0 else 15 := by
        by_cases h : 0 < over (inS S) l
        · rw [if_pos h]; exact cut_yes hg ⟨hall, h⟩
        · rw [if_neg h]; exact cut_no hg fun hc => h hc.o
      rw [hchk]
      generalize inS S = s at *
      refine VC.loop (fun k : Nat => ⟨[(44, .int .i64 (k : Nat)), (43, .int .i64 l.length), (42, edV l), (12, .int .i64 (over s (l.take k))), (8, .sl 0 [] 1 0 m)], [(0, .arr m 1 (fun i => .bool (s (i : Nat))))], [], 1⟩) (fun k => k ≤ l.length) (fun k => l.length - k) 0 (by omega) (by
        show ∀ a w, _ → Sim _ ⟨[(44, .int .i64 ((0 : Nat) : Int)), (43, .int .i64 l.length), (42, edV l), (12, .int .i64 0), (8, .sl 0 [] 1 0 m)], [(0, .arr m 1 (fun i => .bool (s (i : Nat))))], [], 1⟩ a w
        exact (Sim.less [] (by rfl) R_ R_)) fun k hk => ?_
      have hbd := over_bd ok s k hk
      by_cases hkl : k < l.length
      · have hkk : ((k : Nat) : Int).toNat = k := Int.toNat_natCast k
        have he := ok.get hkl
        have hst := over_step (s := s) hkl
        unfold ovO at hst
        rw [← hkk] at he
        rw [show l.getD k edZ = (l.getD ((k : Nat) : Int).toNat edZ) by rw [hkk]] at hst
        have e1 : ((0 + (l.getD ((k : Nat) : Int).toNat edZ).b.toNat : Nat) : Int) = (l.getD ((k : Nat) : Int).toNat edZ).b := by omega
        have e2 : ((0 + (l.getD ((k : Nat) : Int).toNat edZ).a.toNat : Nat) : Int) = (l.getD ((k : Nat) : Int).toNat edZ).a := by omega
        generalize hov : over s (l.take k) = ov at *
        cases hA : s ((0 + (l.getD ((k : Nat) : Int).toNat edZ).b.toNat : Nat) : Int) <;> cases hB : s ((0 + (l.getD ((k : Nat) : Int).toNat edZ).a.toNat : Nat) : Int)
        all_goals
          rw [e1] at hA
          rw [e2] at hB
          rw [hA, hB] at hst
          rw [← e1] at hA
          rw [← e2] at hB
          repeat' (first | (refine SS_ ?_) | (refine VC.litT (by rfl) LTR_ ?_) | (refine VC.litF (by rfl) LFA_ ?_) | (refine Seq.litC (by rfl) (by rfl) (fun hb => ?_) (fun hb => ?_) <;> (fail_if_success (with_reducible have := litT_ hb)) <;> (fail_if_success (with_reducible have := litF_ hb)) <;> (try simp only [HB_] at hb) <;> (try (exfalso; first | omega | (cases hb; done)))) | (refine VC.cond (by rfl) (fun hb => ?_) (fun hb => ?_) <;> (fail_if_success (with_reducible have := litT_ hb)) <;> (fail_if_success (with_reducible have := litF_ hb)) <;> (try simp only [HB_] at hb) <;> (try (exfalso; first | omega | (cases hb; done)))) | fail)
        all_goals first | (exfalso; rw [hA] at hb; cases hb; done) | (exfalso; rw [hB] at hb; cases hb; done) | (exfalso; rename_i hx; first | (rw [hA] at hx; cases hx; done) | (rw [hB] at hx; cases hx; done)) | (exfalso; rename_i hx _; first | (rw [hA] at hx; cases hx; done) | (rw [hB] at hx; cases hx; done)) | (exfalso; rename_i hx _ _; first | (rw [hA] at hx; cases hx; done) | (rw [hB] at hx; cases hx; done)) | skip
        all_goals
          refine ⟨k + 1, by omega, by omega, ?_⟩
          show ∀ a w, _ → Sim _ ⟨[(44, .int .i64 ((k + 1 : Nat) : Int)), (43, .int .i64 l.length), (42, edV l), (12, .int .i64 (over s (l.take (k + 1)))), (8, .sl 0 [] 1 0 m)], [(0, .arr m 1 (fun i => .bool (s (i : Nat))))], [], 1⟩ a w
          simp only [Bool.not_true, Bool.not_false, Bool.and_self, Bool.and_true, Bool.and_false, Bool.false_and, Bool.true_and, if_true, if_false, Bool.false_eq_true] at hst
          rw [hst]
          exact (Sim.less [] (by rfl) R_ R_)
          all_goals omega
      · obtain rfl : k = l.length := by omega
        rw [List.take_of_length_le (Nat.le_refl _)] at hbd ⊢
        repeat' (first | (refine SS_ ?_) | (refine VC.litF (by rfl) LFA_ ?_) | (refine VC.cond (by rfl) (fun hb => ?_) (fun hb => ?_) <;> (fail_if_success (with_reducible have := litT_ hb)) <;> (fail_if_success (with_reducible have := litF_ hb)) <;> (try simp only [HB_] at hb) <;> (try (exfalso; first | omega | (cases hb; done)))) | fail)
        all_goals first | (rw [if_pos (by omega)]; (refine retC_mk ([(6, .int .i64 0)]) ([]) 1 (Sim.less [] (by rfl) R_ R_) (retQ_ok (by rfl) ([]) (fun i av h => h) ⟨?_, ?_⟩)) <;> rfl; done) | (rw [if_neg (by omega)]; (refine retC_mk ([(6, .int .i64 15)]) ([]) 1 (Sim.less [] (by rfl) R_ R_) (retQ_ok (by rfl) ([]) (fun i av h => h) ⟨?_, ?_⟩)) <;> rfl; done) | fail
  · rw [cutE, if_pos hg]
    generalize givenE n l = e at *
    refine Ok.of_vcC tt_ok Try.func21 rfl rfl (by show 3 ≤ _; decide) 0 (hlt_ok (by rfl)) fun c0 => ?_
    repeat' (first | (refine SS_ ?_) | (refine Seq.callp false (c1) Try.func29 GOk.nil subG.nil (by rfl) (by rfl) rfl rfl rfl rfl rfl (by rfl) rfl VW_ NI_ NI_ FR_ ?_) | (refine VC.litT (by rfl) LTR_ ?_) | fail)
    (refine retC_mk ([(6, .int .i64 e)]) ([]) 0 (Sim.less [] (by rfl) R_ R_) (retQ_ok (by rfl) ([]) (fun i av h => h) ⟨?_, ?_⟩)) <;> rfl
end Go.Proofs.Ytkpidpmlehkjbaa
