/- Flow: networks made of numbers. -/
import Derived.Test.YtkpidpmlehkjbaaZe
set_option linter.unusedSimpArgs false
set_option linter.unusedVariables false
namespace Go.Fl
open Go.Lx
def netN (l : List Int) : Nat := (1 + atI l 0 5).toNat
def cntN (l : List Int) : Nat := min 9 ((l.length - 1) / 5)
def edN (l : List Int) (i : Nat) : Ed :=
  ⟨atI l (5 * (i : Int) + 1) (1 + atI l 0 5), atI l (5 * (i : Int) + 2) (1 + atI l 0 5), if atI l (5 * (i : Int) + 5) 4 = 0 then min (atI l (5 * (i : Int) + 3) 7) (1 + atI l (5 * (i : Int) + 5) 12 / 4) else 0, atI l (5 * (i : Int) + 3) 7, atI l (5 * (i : Int) + 4) 10 - 3⟩
def netX (l : List Int) : List Ed := (List.range (cntN l)).map (edN l)
theorem netN_eq (l : List Int) : ((netN l : Nat) : Int) = 1 + atI l 0 5 := by
  have := at_lt l 0 5 (by omega)
  unfold netN; omega
theorem netX_len (l : List Int) : (netX l).length = cntN l := by unfold netX; rw [List.length_map, List.length_range]
theorem netX_get {l : List Int} {i : Nat} (h : i < cntN l) : (netX l).getD i edZ = edN l i := by
  unfold netX
  rw [List.getD_eq_getElem?_getD, List.getElem?_map, List.getElem?_range h]; rfl
theorem cnt_le (l : List Int) : cntN l ≤ 9 := Nat.min_le_left _ _
theorem edN_ok (l : List Int) (i : Nat) : 0 ≤ (edN l i).a ∧ (edN l i).a < netN l ∧ 0 ≤ (edN l i).b ∧ (edN l i).b < netN l ∧ 0 ≤ (edN l i).lo ∧ (edN l i).lo ≤ (edN l i).hi ∧ (edN l i).hi ≤ 6 ∧ -3 ≤ (edN l i).c ∧ (edN l i).c ≤ 6 := by
  have h0 := at_lt l 0 5 (by omega)
  have hn := netN_eq l
  have h1 := at_lt l (5 * (i : Int) + 1) (1 + atI l 0 5) (by omega)
  have h2 := at_lt l (5 * (i : Int) + 2) (1 + atI l 0 5) (by omega)
  have h3 := at_lt l (5 * (i : Int) + 3) 7 (by omega)
  have h4 := at_lt l (5 * (i : Int) + 4) 10 (by omega)
  have h5 := at_lt l (5 * (i : Int) + 5) 12 (by omega)
  have e1 : (edN l i).a = atI l (5 * (i : Int) + 1) (1 + atI l 0 5) := rfl
  have e2 : (edN l i).b = atI l (5 * (i : Int) + 2) (1 + atI l 0 5) := rfl
  have e3 : (edN l i).lo = if atI l (5 * (i : Int) + 5) 4 = 0 then min (atI l (5 * (i : Int) + 3) 7) (1 + atI l (5 * (i : Int) + 5) 12 / 4) else 0 := rfl
  have e4 : (edN l i).hi = atI l (5 * (i : Int) + 3) 7 := rfl
  have e5 : (edN l i).c = atI l (5 * (i : Int) + 4) 10 - 3 := rfl
  rw [e1, e2, e3, e4, e5]
  split <;> omega
theorem net_ed (l : List Int) : ∀ e ∈ netX l, 0 ≤ e.a ∧ e.a < netN l ∧ 0 ≤ e.b ∧ e.b < netN l ∧ 0 ≤ e.lo ∧ e.lo ≤ e.hi ∧ e.hi ≤ 6 ∧ -3 ≤ e.c ∧ e.c ≤ 6 := fun e he => by
  obtain ⟨i, _, rfl⟩ := List.mem_map.1 he
  exact edN_ok l i
theorem netN_le (l : List Int) : 1 ≤ netN l ∧ netN l ≤ 5 := by
  have h0 := at_lt l 0 5 (by omega)
  have hn := netN_eq l
  omega
theorem net_ok (l : List Int) : NetOk (netN l) (netX l) := ⟨by have := netN_le l; omega, by rw [netX_len]; have := cnt_le l; omega, fun e he => by have := net_ed l e he; omega⟩
/-- A network that is one has no error. -/
theorem given_of {n : Nat} {l : List Ed} (ok : NetOk n l) (hl : l.length ≤ 256) : givenE n l = 0 := by
  have := ok.n64
  rw [givenE, if_neg (by omega), if_neg (by omega), if_neg fun h => ?_]
  obtain ⟨e, he, hb⟩ := List.any_eq_true.1 h
  unfold edBad at hb
  rw [decide_eq_true_eq] at hb
  have := ok.ed e he
  omega
end Go.Fl
namespace Go.Proofs.Ytkpidpmlehkjbaa
open Go.V Go.RowKit Go.L Go.Lx Go.Fl
set_option maxRecDepth 10000
set_option maxHeartbeats 4000000
theorem network_walk (l : List Int) (hl : IOk l) : Ok Try.prog 9 [] [] (.pair (liV l) .nul) (fun r h' => r = .tup (.pair (.int .i64 (netN l : Nat)) (.pair (.sl 0 [] 5 0 (netX l).length) .nul)) ∧ h' = [(0, .arr (netX l).length 5 (fun i => edA ((netX l).getD i edZ)))]) := by
  have a0 := at_lt l 0 5 (by omega)
  have hn := netN_eq l
  have ca := lAt_ok l hl 0 5
  rw [hn]
  have hx : ∀ i : Nat, edN l i = ⟨atI l (5 * (i : Int) + 1) (1 + atI l 0 5), atI l (5 * (i : Int) + 2) (1 + atI l 0 5), if atI l (5 * (i : Int) + 5) 4 = 0 then min (atI l (5 * (i : Int) + 3) 7) (1 + atI l (5 * (i : Int) + 5) 12 / 4) else 0, atI l (5 * (i : Int) + 3) 7, atI l (5 * (i : Int) + 4) 10 - 3⟩ := fun i => rfl
  generalize atI l 0 5 = n0 at *
  refine Ok.of_vcC tt_ok Try.func9 rfl rfl (by show 1 ≤ _; decide) 0 (hlt_ok (by rfl)) fun c0 => ?_
  repeat' (first | (refine SS_ ?_) | (refine Seq.callp false (ca) Try.func26 GOk.nil subG.nil (by rfl) (by rfl) rfl rfl rfl rfl rfl (by rfl) rfl VW_ NI_ NI_ FR_ ?_) | fail)
  refine VC.conv (Sim.ghost 5 5 (fun i => edA (([] : List Ed).getD i edZ)) (by rfl) (.inl rfl)) ?_
  refine VC.loop (fun k : Nat => ⟨[(6, .int .i64 (k : Nat)), (5, .sl 0 [] 5 0 ((netX l).take k).length), (4, .int .i64 (1 + n0)), (0, liV l)], [(0, .arr ((netX l).take k).length 5 (fun i => edA (((netX l).take k).getD i edZ)))], [], 1⟩) (fun k => k ≤ cntN l) (fun k => cntN l - k) 0 (by omega) (by
    (refine Sim.less [] (by rfl) ?_ ?_ <;> (repeat' (first | (exact EnvLe.nil) | (exact HeapLe.nil) | (with_reducible apply EnvLe.cons) | (with_reducible apply HeapLe.cons) | ((with_reducible refine RelA.int ?_; first | (refine Keep.mk ?_; first | with_reducible rfl | omega | decide) | skip)) | (exact rfl) | (exact ⟨rfl, rfl⟩) | ((with_reducible refine RelA.rsl ?_; intro i hi)) | (with_reducible refine RelA.pair ?_ ?_) | ((refine RelA.arr ?_; intro i hi)) | fail)) <;> (try with_reducible refine Keep.mk ?_))
    all_goals rfl) fun k hk => ?_
  have hcn := cnt_le l
  have hxl := netX_len l
  have htl : ((netX l).take k).length = k := by rw [List.length_take]; omega
  have hcd : cntN l = min 9 ((l.length - 1) / 5) := rfl
  by_cases hkl : k < cntN l
  · have hst := take_snoc (d := edZ) (l := netX l) (k := k) (by omega)
    rw [netX_get hkl, hx k] at hst
    have c1 := lAt_ok l hl (5 * (k : Int) + 1) (1 + n0)
    have c2 := lAt_ok l hl (5 * (k : Int) + 2) (1 + n0)
    have c3 := lAt_ok l hl (5 * (k : Int) + 3) 7
    have c4 := lAt_ok l hl (5 * (k : Int) + 4) 10
    have c5 := lAt_ok l hl (5 * (k : Int) + 5) 4
    have c6 := lAt_ok l hl (5 * (k : Int) + 5) 12
    have d3 := at_lt l (5 * (k : Int) + 3) 7 (by omega)
    have d4 := at_lt l (5 * (k : Int) + 4) 10 (by omega)
    have d6 := at_lt l (5 * (k : Int) + 5) 12 (by omega)
    generalize atI l (5 * (k : Int) + 1) (1 + n0) = x1 at *
    generalize atI l (5 * (k : Int) + 2) (1 + n0) = x2 at *
    generalize atI l (5 * (k : Int) + 3) 7 = x3 at *
    generalize atI l (5 * (k : Int) + 4) 10 = x4 at *
    generalize atI l (5 * (k : Int) + 5) 4 = x5 at *
    generalize atI l (5 * (k : Int) + 5) 12 = x6 at *
    generalize hT : (netX l).take (k + 1) = T2 at *
    generalize (netX l).take k = T at *
    by_cases h5 : x5 = 0
    · rw [if_pos h5] at hst
      repeat' (first | (refine SS_ ?_) | (refine Seq.callp false (c1) Try.func26 GOk.nil subG.nil (by rfl) (by rfl) rfl rfl rfl rfl rfl (by rfl) rfl VW_ NI_ NI_ FR_ ?_) | (refine Seq.callp false (c2) Try.func26 GOk.nil subG.nil (by rfl) (by rfl) rfl rfl rfl rfl rfl (by rfl) rfl VW_ NI_ NI_ FR_ ?_) | (refine Seq.callp false (c3) Try.func26 GOk.nil subG.nil (by rfl) (by rfl) rfl rfl rfl rfl rfl (by rfl) rfl VW_ NI_ NI_ FR_ ?_) | (refine Seq.callp false (c4) Try.func26 GOk.nil subG.nil (by rfl) (by rfl) rfl rfl rfl rfl rfl (by rfl) rfl VW_ NI_ NI_ FR_ ?_) | (refine Seq.callp false (c5) Try.func26 GOk.nil subG.nil (by rfl) (by rfl) rfl rfl rfl rfl rfl (by rfl) rfl VW_ NI_ NI_ FR_ ?_) | (refine VC.drawm (id := 8) [(0, 0), (1, 1), (2, 0), (3, 0), (4, 8), (5, 24), (6, 60), (7, 124), (8, 252), (9, 511), (10, 1023)] [11] (by rfl) (by kernel_rfl) (by rfl) ?_) | (refine DSeq.callp false (c6) Try.func26 GOk.nil subG.nil (by rfl) (fastE (by rfl)) (fastH (by rfl)) (by rfl) (by rfl) rfl rfl rfl rfl rfl (by rfl) (by rfl) VW_ NI_ NI_ FR_ ?_) | (refine DSeq.val (by rfl) (fastE (by rfl)) (fastH (by rfl)) (min_ok (by rfl) (by rfl)) (by rfl) (by rfl) ?_) | (refine Seq.lit (by rfl) (by rfl) LT2_ ?_) | (refine VC.litT (by rfl) LTR_ ?_) | (refine DD_ ?_) | fail)
      refine ⟨k + 1, by omega, by omega, ?_⟩
      show ∀ a w, _ → Sim _ ⟨[(6, .int .i64 ((k + 1 : Nat) : Int)), (5, .sl 0 [] 5 0 ((netX l).take (k + 1)).length), (4, .int .i64 (1 + n0)), (0, liV l)], [(0, .arr ((netX l).take (k + 1)).length 5 (fun i => edA (((netX l).take (k + 1)).getD i edZ)))], [], 1⟩ a w
      rw [hT, hst, List.length_append, List.length_singleton]
      (refine Sim.less [(0, 3)] (by rfl) ?_ ?_ <;> (repeat' (first | (exact EnvLe.nil) | (exact HeapLe.nil) | (with_reducible apply EnvLe.cons) | (with_reducible apply HeapLe.cons) | ((with_reducible refine RelA.int ?_; first | (refine Keep.mk ?_; first | with_reducible rfl | omega | decide) | skip)) | (exact rfl) | (exact ⟨rfl, rfl⟩) | ((with_reducible refine RelA.rsl ?_; intro i hi)) | ((refine RelA.arr ?_; intro i hi)) | fail)) <;> (try with_reducible refine Keep.mk ?_))
      exact rel_snocG (G := edA) (fun e => NI_) (by assumption) (by rfl)
    · rw [if_neg h5] at hst
      repeat' (first | (refine SS_ ?_) | (refine Seq.callp false (c1) Try.func26 GOk.nil subG.nil (by rfl) (by rfl) rfl rfl rfl rfl rfl (by rfl) rfl VW_ NI_ NI_ FR_ ?_) | (refine Seq.callp false (c2) Try.func26 GOk.nil subG.nil (by rfl) (by rfl) rfl rfl rfl rfl rfl (by rfl) rfl VW_ NI_ NI_ FR_ ?_) | (refine Seq.callp false (c3) Try.func26 GOk.nil subG.nil (by rfl) (by rfl) rfl rfl rfl rfl rfl (by rfl) rfl VW_ NI_ NI_ FR_ ?_) | (refine Seq.callp false (c4) Try.func26 GOk.nil subG.nil (by rfl) (by rfl) rfl rfl rfl rfl rfl (by rfl) rfl VW_ NI_ NI_ FR_ ?_) | (refine Seq.callp false (c5) Try.func26 GOk.nil subG.nil (by rfl) (by rfl) rfl rfl rfl rfl rfl (by rfl) rfl VW_ NI_ NI_ FR_ ?_) | (refine Seq.lit (by rfl) (by rfl) LT2_ ?_) | (refine VC.litT (by rfl) LTR_ ?_) | (refine VC.litF (by rfl) LFA_ ?_) | fail)
      refine ⟨k + 1, by omega, by omega, ?_⟩
      show ∀ a w, _ → Sim _ ⟨[(6, .int .i64 ((k + 1 : Nat) : Int)), (5, .sl 0 [] 5 0 ((netX l).take (k + 1)).length), (4, .int .i64 (1 + n0)), (0, liV l)], [(0, .arr ((netX l).take (k + 1)).length 5 (fun i => edA (((netX l).take (k + 1)).getD i edZ)))], [], 1⟩ a w
      rw [hT, hst, List.length_append, List.length_singleton]
      (refine Sim.less [(0, 3)] (by rfl) ?_ ?_ <;> (repeat' (first | (exact EnvLe.nil) | (exact HeapLe.nil) | (with_reducible apply EnvLe.cons) | (with_reducible apply HeapLe.cons) | ((with_reducible refine RelA.int ?_; first | (refine Keep.mk ?_; first | with_reducible rfl | omega | decide) | skip)) | (exact rfl) | (exact ⟨rfl, rfl⟩) | ((with_reducible refine RelA.rsl ?_; intro i hi)) | ((refine RelA.arr ?_; intro i hi)) | fail)) <;> (try with_reducible refine Keep.mk ?_))
      exact rel_snocG (G := edA) (fun e => NI_) (by assumption) (by rfl)
  · obtain rfl : k = cntN l := by omega
    rw [List.take_of_length_le (by omega)] at htl ⊢
    repeat' (first | (refine SS_ ?_) | (refine VC.litF (by rfl) LFA_ ?_) | (refine Seq.litC (by rfl) (by rfl) (fun hb => ?_) (fun hb => ?_) <;> (fail_if_success (with_reducible have := litT_ hb)) <;> (fail_if_success (with_reducible have := litF_ hb)) <;> (try simp only [HB_] at hb) <;> (try (exfalso; first | omega | (cases hb; done)))) | fail)
    all_goals (refine retC_mk ([(2, .int .i64 (1 + n0)), (3, .sl 0 [] 5 0 (netX l).length)]) ([(0, .arr (netX l).length 5 (fun i => edA ((netX l).getD i edZ)))]) 1 (Sim.less [] (by rfl) R_ R_) (retQ_ok (by rfl) ([(0, .arr (netX l).length 5 (fun i => edA ((netX l).getD i edZ)))]) (fun i av h => h) ⟨?_, ?_⟩)) <;> rfl
theorem network_ok (l : List Int) (hl : IOk l) : Ok Try.prog 9 [] [] (.pair (liV l) .nul) (fun r h' => r = .tup (.pair (.int .i64 (netN l : Nat)) (.pair (edT (netX l)) .nul)) ∧ h' = []) := by
  refine Ok.still (network_walk l hl) ?_
  rintro r h' ⟨rfl, rfl⟩
  exact ⟨_, .tup (.pair (.rel (NoId.self NI_)) (.pair (ViewT.sl (by rfl) rfl trivial (by omega) rfl fun i hi => .rel (by rw [Nat.zero_add]; exact NoId.self NI_)) (.rel (NoId.self (a := .nul) NI_)))), rfl, rfl⟩
end Go.Proofs.Ytkpidpmlehkjbaa
