/- Fractions: package ratio. -/
import Derived.Test.YtdbebdjnpckfdaaDoorNb
import Derived.Test.YtdbebdjnpckfdaaDoorRa
import Derived.Test.YtdbebdjnpckfdaaDoorFr
set_option linter.unusedSimpArgs false
set_option linter.unusedVariables false
namespace Go.Proofs.YtdbebdjnpckfdaaDoor
open Go.V Go.RowKit Go.L Go.Lx Go.Rt
set_option maxRecDepth 10000
set_option maxHeartbeats 4000000
abbrev ratA (r : Rq) : AV := .pair (.int .i64 r.P) (.pair (.int .i64 r.Q) .nul)
theorem size_ok (n : Int) (hn : I64 n) : Ok Tryd.prog 58 [] [] (.pair (.int .i64 n) .nul) (fun r h' => r = .int .u64 (Rt.absI n) ∧ h' = []) := by
  obtain ⟨n1, n2⟩ := hn
  unfold Rt.absI
  by_cases h : n < 0
  · rw [if_pos h]
    have hw := wrap_nn ⟨n1, h⟩
    refine Ok.of_vcC tt_ok Tryd.func58 rfl rfl (by show 1 ≤ _; decide) 0 (hlt_ok (by rfl)) fun c0 => ?_
    repeat' (first | (refine Seq.val (negw_ok (x := .tmp 6) (by rfl) (-n) hw) (by rfl) (by rfl) ?_) | (first | with_reducible refine VC.seq ?_ | with_reducible refine VC.block ?_ | with_reducible refine VC.region ?_ | with_reducible refine VC.exit ?_ | with_reducible refine VC.ret ?_ | with_reducible refine VC.skip ?_ | with_reducible refine Seq.nil ?_ | with_reducible refine thenQ_n ?_ | with_reducible refine thenQ_r ?_ | with_reducible refine thenQ_e ?_ | with_reducible refine inQ_n ?_ | with_reducible refine inQ_r ?_ | with_reducible refine inQ_e ?_ | ((with_reducible refine inQ_o ?_ ?_); rfl) | (refine Seq.ev0 true tt_ok (by rfl) (by (first | exact trivial | exact u8_in _ rfl | exact u32_in _ rfl | ((with_reducible refine AllP.guard ?_); simp only [AllP, inI, fitV, maxK, inK, inbL, inb, List.append, List.cons_append, List.nil_append, true_and, and_true]; first | done | omega))) rfl rfl rfl ?_) | (refine Seq.ev true tt_ok (by rfl) (by (first | exact trivial | exact u8_in _ rfl | exact u32_in _ rfl | ((with_reducible refine AllP.guard ?_); simp only [AllP, inI, fitV, maxK, inK, inbL, inb, List.append, List.cons_append, List.nil_append, true_and, and_true]; first | done | omega))) rfl rfl rfl ?_) | (refine Seq.evn true tt_ok (by rfl) (by (first | exact trivial | exact u8_in _ rfl | exact u32_in _ rfl | ((with_reducible refine AllP.guard ?_); simp only [AllP, inI, fitV, maxK, inK, inbL, inb, List.append, List.cons_append, List.nil_append, true_and, and_true]; first | done | omega))) rfl ?_) | (refine Seq.pass (by rfl) rfl ?_)) | (refine Seq.ev0 false tt_ok (by rfl) (by (first | exact trivial | exact u8_in _ rfl | exact u32_in _ rfl | ((with_reducible refine AllP.guard ?_); simp only [AllP, inI, fitV, maxK, inK, inbL, inb, List.append, List.cons_append, List.nil_append, true_and, and_true]; first | done | omega))) rfl rfl rfl ?_) | (refine VC.litT (by rfl) LTR_ ?_) | fail)
    (refine retC_mk ([(2, .int .u64 (-n))]) ([]) 0 (Sim.less [] (by rfl) R_ R_) (retQ_ok (by rfl) ([]) (fun i av h => h) ⟨?_, ?_⟩)) <;> rfl
  · rw [if_neg h]
    refine Ok.of_vcC tt_ok Tryd.func58 rfl rfl (by show 1 ≤ _; decide) 0 (hlt_ok (by rfl)) fun c0 => ?_
    repeat' (first | (refine SS_ ?_) | (refine VC.litF (by rfl) LFA_ ?_) | fail)
    (refine retC_mk ([(2, .int .u64 n)]) ([]) 0 (Sim.less [] (by rfl) R_ R_) (retQ_ok (by rfl) ([]) (fun i av h => h) ⟨?_, ?_⟩)) <;> rfl
abbrev gH : Asc := [(0, .fn (.func 70) .nul (.pair (.ptr 0 []) .nul))]
theorem gcd1_ok : ∀ (m : Nat) (x y : Int), 0 ≤ x ∧ x ≤ 18446744073709551615 → 0 ≤ y ∧ y ≤ 18446744073709551615 → y.toNat ≤ m → Ok Tryd.prog 70 [] gH (.pair (.int .u64 x) (.pair (.int .u64 y) (.pair (.ptr 0 []) .nul))) (fun r h' => r = .int .u64 (gI x y) ∧ h' = gH) := by
  intro m
  induction m with
  | zero =>
    intro x y hx hy hm
    obtain rfl : y = 0 := by omega
    rw [gI_zero x hx.1]
    refine Ok.of_vcC tt_ok Tryd.func70 rfl rfl (by show 3 ≤ _; decide) 1 (hlt_ok (by rfl)) fun c0 => ?_
    repeat' (first | (refine SS_ ?_) | (refine VC.litT (by rfl) LTR_ ?_) | fail)
    (refine retC_mk ([(5, .int .u64 x)]) (gH) 1 (Sim.less [] (by rfl) R_ R_) (retQ_ok (by rfl) (gH) (fun i av h => h) ⟨?_, ?_⟩)) <;> rfl
  | succ m ih =>
    intro x y hx hy hm
    by_cases h0 : y = 0
    · subst h0
      rw [gI_zero x hx.1]
      refine Ok.of_vcC tt_ok Tryd.func70 rfl rfl (by show 3 ≤ _; decide) 1 (hlt_ok (by rfl)) fun c0 => ?_
      repeat' (first | (refine SS_ ?_) | (refine VC.litT (by rfl) LTR_ ?_) | fail)
      (refine retC_mk ([(5, .int .u64 x)]) (gH) 1 (Sim.less [] (by rfl) R_ R_) (retQ_ok (by rfl) (gH) (fun i av h => h) ⟨?_, ?_⟩)) <;> rfl
    · have h1 := Int.emod_lt_of_pos x (b := y) (by omega)
      have h2 := Int.emod_nonneg x (b := y) (by omega)
      have c1 := ih y (x % y) hy ⟨h2, by omega⟩ (by omega)
      rw [← gI_step hx.1 (by omega)] at c1
      generalize gI x y = z at *
      refine Ok.of_vcC tt_ok Tryd.func70 rfl rfl (by show 3 ≤ _; decide) 1 (hlt_ok (by rfl)) fun c0 => ?_
      repeat' (first | (refine SS_ ?_) | (refine VC.drawm (id := 3) [(0, 0), (1, 0), (2, 0), (3, 0), (4, 12), (5, 31)] [6] (by rfl) (by kernel_rfl) (by rfl) ?_) | (refine DSeq.callr false [] [] (.int .u64 z) ([]) (gH) 1 (c1) Tryd.func70 GOk.nil subG.nil (by rfl) (fastE (by rfl)) (fastH (by rfl)) (by rfl) (by rfl) rfl rfl rfl rfl rfl (by rfl) (by rfl) (by rfl) (by rfl) (by rfl) (by repeat (first | exact trivial | refine ⟨rfl, ?_⟩)) (by rfl) (by rfl) (by rfl) VW_ NI_ R_ (noFrL_ok NI_) BK_ ?_) | (refine VC.litF (by rfl) LFA_ ?_) | (refine DD_ ?_) | fail)
      (refine retC_mk ([(5, .int .u64 z)]) (gH) 1 (Sim.less [] (by rfl) R_ R_) (retQ_ok (by rfl) (gH) (fun i av h => h) ⟨?_, ?_⟩)) <;> rfl
theorem gcd_ok (x y : Int) (hx : 0 ≤ x ∧ x ≤ 18446744073709551615) (hy : 0 ≤ y ∧ y ≤ 18446744073709551615) : Ok Tryd.prog 57 [] [] (.pair (.int .u64 x) (.pair (.int .u64 y) .nul)) (fun r h' => r = .int .u64 (gI x y) ∧ h' = []) := by
  have c1 := gcd1_ok y.toNat x y hx hy (Nat.le_refl _)
  generalize gI x y = z at *
  refine Ok.of_vcC tt_ok Tryd.func57 rfl rfl (by show 2 ≤ _; decide) 0 (hlt_ok (by rfl)) fun c0 => ?_
  repeat' (first | (refine SS_ ?_) | (refine Seq.callo false [] [] (.int .u64 z) (gH) 1 (c1) Tryd.func70 GOk.nil subG.nil (by rfl) (by rfl) rfl rfl rfl rfl rfl (by rfl) rfl (by rfl) (by rfl) (by rfl) (by rfl) VW_ NI_ R_ (noFrL_ok NI_) BK_ ?_) | fail)
  (refine retC_mk ([(4, .int .u64 z)]) ([]) 1 (Sim.less [] (by rfl) R_ R_) (retQ_ok (by rfl) ([]) (fun i av h => h) ⟨?_, ?_⟩)) <;> rfl
theorem two_rat : TwoInts Tryd.prog 53 where
  und := ⟨_, _, rfl, by decide, by decide, rfl, rfl, rfl, rfl⟩
  st := by kernel_rfl
  gd := by kernel_rfl
theorem make_ok (p q : Int) (hp : I64 p) (hq : I64 q) : Ok Tryd.prog 47 [] [] (.pair (.int .i64 p) (.pair (.int .i64 q) .nul)) (fun r h' => r = .tup (.pair (ratA (mkV p q)) (.pair (.int .i64 (mkErr p q)) .nul)) ∧ h' = []) := by
  have cp := size_ok p hp
  have cq := size_ok q hq
  obtain ⟨p1, p2⟩ := hp
  obtain ⟨q1, q2⟩ := hq
  have ha0 := absI_nn p
  have hb0 := absI_nn q
  have ha1 : Rt.absI p ≤ 9223372036854775808 := by unfold Rt.absI; split <;> omega
  have hb1 : Rt.absI q ≤ 9223372036854775808 := by unfold Rt.absI; split <;> omega
  by_cases h0 : q = 0
  · have he : mkErr p q = 1 := if_pos h0
    rw [show mkV p q = rz from if_neg (by rw [he]; decide), he]
    refine Ok.of_vcC tt_ok Tryd.func47 rfl rfl (by show 2 ≤ _; decide) 0 (hlt_ok (by rfl)) fun c0 => ?_
    repeat' (first | (refine SS_ ?_) | (refine VC.litT (by rfl) LTR_ ?_) | fail)
    refine retC_mk [(4, .ptr 0 []), (5, .int .i64 1)] [(0, ratA rz)] 1 (Sim.less [] (by rfl) R_ R_) (retQ_ok (by rfl) [] nil_sub ⟨rfl, rfl⟩)
  · have hbp : 0 < Rt.absI q := by unfold Rt.absI; split <;> omega
    have hg1 := gI_pos (x := Rt.absI p) (y := Rt.absI q) (.inr hbp)
    have hg2 := gI_le (x := Rt.absI p) hbp
    have cg := gcd_ok (Rt.absI p) (Rt.absI q) ⟨ha0, by omega⟩ ⟨hb0, by omega⟩
    have hd1 := div_le ha0 hg1
    have hd2 := div_le hb0 hg1
    have he : mkErr p q = if 2147483648 < Rt.absI p / gI (Rt.absI p) (Rt.absI q) ∨ 2147483648 < Rt.absI q / gI (Rt.absI p) (Rt.absI q) then 5 else 0 := if_neg h0
    have hv : mkV p q = if mkErr p q = 0 then ⟨if (decide (p < 0) != decide (q < 0)) = true then -(Rt.absI p / gI (Rt.absI p) (Rt.absI q)) else Rt.absI p / gI (Rt.absI p) (Rt.absI q), Rt.absI q / gI (Rt.absI p) (Rt.absI q)⟩ else rz := rfl
    rw [he] at hv
    rw [hv, he]
    generalize Rt.absI p = a at *
    generalize Rt.absI q = b at *
    by_cases hbig : 2147483648 < a / gI a b ∨ 2147483648 < b / gI a b
    · rw [if_pos hbig, if_neg (by decide)]
      refine Ok.of_vcC tt_ok Tryd.func47 rfl rfl (by show 2 ≤ _; decide) 0 (hlt_ok (by rfl)) fun c0 => ?_
      repeat' (first | (refine SS_ ?_) | (refine Seq.callp false (cp) Tryd.func58 GOk.nil subG.nil (by rfl) (by rfl) rfl rfl rfl rfl rfl (by rfl) rfl VW_ NI_ NI_ FR_ ?_) | (refine Seq.callp false (cq) Tryd.func58 GOk.nil subG.nil (by rfl) (by rfl) rfl rfl rfl rfl rfl (by rfl) rfl VW_ NI_ NI_ FR_ ?_) | (refine Seq.callp false (cg) Tryd.func57 GOk.nil subG.nil (by rfl) (by rfl) rfl rfl rfl rfl rfl (by rfl) rfl VW_ NI_ NI_ FR_ ?_) | (refine VC.drawE (id := 5) [(0, 0), (1, 0), (2, 3), (3, 0), (4, 0), (5, 24)] [3, 4, 5] 6 6 [7] (by rfl) (by kernel_rfl) (by rfl) (by rfl) (by rfl) (by rfl) ?_) | (refine DSeq.nil (late_endE0 true tt_ok (by rfl) (by rfl) (by rfl) (by (first | exact trivial | exact u8_in _ rfl | exact u32_in _ rfl | ((with_reducible refine AllP.guard ?_); simp only [AllP, inI, fitV, maxK, inK, inbL, inb, List.append, List.cons_append, List.nil_append, true_and, and_true]; first | done | omega))) (by rfl) (by rfl) (by repeat (first | exact trivial | refine ⟨trivial, ?_⟩ | refine ⟨lateX (by rfl) (late_evH true tt_ok (by rfl) (by rfl) (by rfl) (by rfl) (by (first | exact trivial | exact u8_in _ rfl | exact u32_in _ rfl | ((with_reducible refine AllP.guard ?_); simp only [AllP, inI, fitV, maxK, inK, inbL, inb, List.append, List.cons_append, List.nil_append, true_and, and_true]; first | done | omega)))), ?_⟩)) (by rfl) ?_)) | (refine VC.litT (by rfl) LTR_ ?_) | (refine VC.litF (by rfl) LFA_ ?_) | (refine DD_ ?_) | (refine Seq.litC (by rfl) (by rfl) (fun hb => ?_) (fun hb => ?_) <;> (fail_if_success (with_reducible have := litT_ hb)) <;> (fail_if_success (with_reducible have := litF_ hb)) <;> (try simp only [HB_] at hb) <;> (try (exfalso; first | omega | (cases hb; done)))) | fail)
      all_goals refine retC_mk [(4, .ptr 0 []), (5, .int .i64 5)] [(0, ratA rz)] 1 (Sim.less [] (by rfl) R_ R_) (retQ_ok (by rfl) [] nil_sub ⟨rfl, rfl⟩)
    · rw [if_neg hbig, if_pos rfl]
      by_cases hs : (decide (p < 0) != decide (q < 0)) = true
      · rw [if_pos hs]
        refine Ok.of_vcC tt_ok Tryd.func47 rfl rfl (by show 2 ≤ _; decide) 0 (hlt_ok (by rfl)) fun c0 => ?_
        repeat' (first | (refine SS_ ?_) | (refine Seq.callp false (cp) Tryd.func58 GOk.nil subG.nil (by rfl) (by rfl) rfl rfl rfl rfl rfl (by rfl) rfl VW_ NI_ NI_ FR_ ?_) | (refine Seq.callp false (cq) Tryd.func58 GOk.nil subG.nil (by rfl) (by rfl) rfl rfl rfl rfl rfl (by rfl) rfl VW_ NI_ NI_ FR_ ?_) | (refine Seq.callp false (cg) Tryd.func57 GOk.nil subG.nil (by rfl) (by rfl) rfl rfl rfl rfl rfl (by rfl) rfl VW_ NI_ NI_ FR_ ?_) | (refine VC.drawE (id := 5) [(0, 0), (1, 0), (2, 3), (3, 0), (4, 0), (5, 24)] [3, 4, 5] 6 6 [7] (by rfl) (by kernel_rfl) (by rfl) (by rfl) (by rfl) (by rfl) ?_) | (refine DSeq.nil (late_endE0 true tt_ok (by rfl) (by rfl) (by rfl) (by (first | exact trivial | exact u8_in _ rfl | exact u32_in _ rfl | ((with_reducible refine AllP.guard ?_); simp only [AllP, inI, fitV, maxK, inK, inbL, inb, List.append, List.cons_append, List.nil_append, true_and, and_true]; first | done | omega))) (by rfl) (by rfl) (by repeat (first | exact trivial | refine ⟨trivial, ?_⟩ | refine ⟨lateX (by rfl) (late_evH true tt_ok (by rfl) (by rfl) (by rfl) (by rfl) (by (first | exact trivial | exact u8_in _ rfl | exact u32_in _ rfl | ((with_reducible refine AllP.guard ?_); simp only [AllP, inI, fitV, maxK, inK, inbL, inb, List.append, List.cons_append, List.nil_append, true_and, and_true]; first | done | omega)))), ?_⟩)) (by rfl) ?_)) | (refine Seq.val (nebool_ok tt_ok (by rfl) (by rfl) (by rfl) true hs) (by rfl) (by rfl) ?_) | (refine Seq.lit (by rfl) (by rfl) LT2_ ?_) | (refine VC.litT (by rfl) LTR_ ?_) | (refine VC.litF (by rfl) LFA_ ?_) | (refine DD_ ?_) | fail)
        refine retC_mk [(4, .ptr 0 []), (5, .int .i64 0)] [(0, twoA (0 - a / gI a b) (b / gI a b))] 2 (Sim.less [] (by rfl) R_ R_) (retQ_ok (by rfl) [] nil_sub ⟨?_, rfl⟩)
        rw [Int.zero_sub]
      · rw [if_neg hs]
        have hs2 : (decide (p < 0) != decide (q < 0)) = false := by simpa using hs
        refine Ok.of_vcC tt_ok Tryd.func47 rfl rfl (by show 2 ≤ _; decide) 0 (hlt_ok (by rfl)) fun c0 => ?_
        repeat' (first | (refine SS_ ?_) | (refine Seq.callp false (cp) Tryd.func58 GOk.nil subG.nil (by rfl) (by rfl) rfl rfl rfl rfl rfl (by rfl) rfl VW_ NI_ NI_ FR_ ?_) | (refine Seq.callp false (cq) Tryd.func58 GOk.nil subG.nil (by rfl) (by rfl) rfl rfl rfl rfl rfl (by rfl) rfl VW_ NI_ NI_ FR_ ?_) | (refine Seq.callp false (cg) Tryd.func57 GOk.nil subG.nil (by rfl) (by rfl) rfl rfl rfl rfl rfl (by rfl) rfl VW_ NI_ NI_ FR_ ?_) | (refine VC.drawE (id := 5) [(0, 0), (1, 0), (2, 3), (3, 0), (4, 0), (5, 24)] [3, 4, 5] 6 6 [7] (by rfl) (by kernel_rfl) (by rfl) (by rfl) (by rfl) (by rfl) ?_) | (refine DSeq.nil (late_endE0 true tt_ok (by rfl) (by rfl) (by rfl) (by (first | exact trivial | exact u8_in _ rfl | exact u32_in _ rfl | ((with_reducible refine AllP.guard ?_); simp only [AllP, inI, fitV, maxK, inK, inbL, inb, List.append, List.cons_append, List.nil_append, true_and, and_true]; first | done | omega))) (by rfl) (by rfl) (by repeat (first | exact trivial | refine ⟨trivial, ?_⟩ | refine ⟨lateX (by rfl) (late_evH true tt_ok (by rfl) (by rfl) (by rfl) (by rfl) (by (first | exact trivial | exact u8_in _ rfl | exact u32_in _ rfl | ((with_reducible refine AllP.guard ?_); simp only [AllP, inI, fitV, maxK, inK, inbL, inb, List.append, List.cons_append, List.nil_append, true_and, and_true]; first | done | omega)))), ?_⟩)) (by rfl) ?_)) | (refine Seq.val (nebool_ok tt_ok (by rfl) (by rfl) (by rfl) false hs2) (by rfl) (by rfl) ?_) | (refine Seq.lit (by rfl) (by rfl) LT2_ ?_) | (refine VC.litF (by rfl) LFA_ ?_) | (refine DD_ ?_) | fail)
        refine retC_mk [(4, .ptr 0 []), (5, .int .i64 0)] [(0, twoA (a / gI a b) (b / gI a b))] 2 (Sim.less [] (by rfl) R_ R_) (retQ_ok (by rfl) [] nil_sub ⟨rfl, rfl⟩)
theorem qvalid_ok (r : Rq) (hr : R64 r) : Ok Tryd.prog 38 [] [] (.pair (ratA r) .nul) (fun v h' => v = .bool (valid r) ∧ h' = []) := by
  have cp := size_ok r.P hr.p
  have cq := size_ok r.Q hr.q
  obtain ⟨⟨p1, p2⟩, q1, q2⟩ := hr
  by_cases h0 : r.P = 0 ∧ r.Q = 0
  · have hv : valid r = true := valid_iff.2 (.inl (by cases r; simp_all))
    rw [hv]
    refine Ok.of_vcC tt_ok Tryd.func38 rfl rfl (by show 1 ≤ _; decide) 0 (hlt_ok (by rfl)) fun c0 => ?_
    repeat' (first | (refine SS_ ?_) | (refine Seq.val (two_eq two_rat (by rfl) (by rfl) true (decide_eq_true h0)) (by rfl) (by rfl) ?_) | (refine VC.litT (by rfl) LTR_ ?_) | fail)
    (refine retC_mk ([(2, .bool true)]) ([]) 1 (Sim.less [] (by rfl) R_ R_) (retQ_ok (by rfl) ([]) (fun i av h => h) ⟨?_, ?_⟩)) <;> rfl
  · have hne : ¬ r = rz := fun e => h0 (by rw [e]; exact ⟨rfl, rfl⟩)
    by_cases hb : 1 ≤ r.Q ∧ r.Q ≤ 2147483648 ∧ -2147483648 ≤ r.P ∧ r.P ≤ 2147483648
    · have hv : valid r = decide (gI (Rt.absI r.P) (Rt.absI r.Q) = 1) := by
        unfold valid
        rw [decide_eq_false hne, Bool.false_or]
        exact decide_eq_decide.2 ⟨fun h => h.2.2.2.2, fun h => ⟨hb.1, hb.2.1, hb.2.2.1, hb.2.2.2, h⟩⟩
      rw [hv]
      have ha0 := absI_nn r.P
      have hb0 := absI_nn r.Q
      have ha1 : Rt.absI r.P ≤ 9223372036854775808 := by unfold Rt.absI; split <;> omega
      have hb1 : Rt.absI r.Q ≤ 9223372036854775808 := by unfold Rt.absI; split <;> omega
      have cg := gcd_ok (Rt.absI r.P) (Rt.absI r.Q) ⟨ha0, by omega⟩ ⟨hb0, by omega⟩
      generalize gI (Rt.absI r.P) (Rt.absI r.Q) = z at *
      refine Ok.of_vcC tt_ok Tryd.func38 rfl rfl (by show 1 ≤ _; decide) 0 (hlt_ok (by rfl)) fun c0 => ?_
      repeat' (first | (refine SS_ ?_) | (refine Seq.val (two_eq two_rat (by rfl) (by rfl) false (decide_eq_false h0)) (by rfl) (by rfl) ?_) | (refine VC.drawm (id := 3) [(0, 0), (1, 1), (2, 3), (3, 7), (4, 15), (5, 31), (6, 63), (7, 127), (8, 255), (9, 511), (10, 1023), (11, 2047), (12, 4095), (13, 8191), (14, 16383), (15, 32767), (16, 65535), (17, 131071), (18, 262143), (19, 524287), (20, 1048575), (21, 2097151), (22, 524287), (23, 4718591), (24, 16777215), (25, 33554431), (26, 67108863), (27, 134217727)] [28] (by rfl) (by kernel_rfl) (by rfl) ?_) | (refine DSeq.callp false (cp) Tryd.func58 GOk.nil subG.nil (by rfl) (fastE (by rfl)) (fastH (by rfl)) (by rfl) (by rfl) rfl rfl rfl rfl rfl (by rfl) (by rfl) VW_ NI_ NI_ FR_ ?_) | (refine DSeq.callp false (cq) Tryd.func58 GOk.nil subG.nil (by rfl) (fastE (by rfl)) (fastH (by rfl)) (by rfl) (by rfl) rfl rfl rfl rfl rfl (by rfl) (by rfl) VW_ NI_ NI_ FR_ ?_) | (refine DSeq.callp false (cg) Tryd.func57 GOk.nil subG.nil (by rfl) (fastE (by rfl)) (fastH (by rfl)) (by rfl) (by rfl) rfl rfl rfl rfl rfl (by rfl) (by rfl) VW_ NI_ NI_ FR_ ?_) | (refine VC.litF (by rfl) LFA_ ?_) | (refine DD_ ?_) | (refine DSeq.lit2 (by rfl) (by rfl) (by rfl) LT2_ (by rfl) ?_) | fail)
      (refine retC_mk ([(2, .bool (decide (z = 1)))]) ([]) 1 (Sim.less [] (by rfl) R_ R_) (retQ_ok (by rfl) ([]) (fun i av h => h) ⟨?_, ?_⟩)) <;> rfl
    · have hv : valid r = false := by
        cases h : valid r with
        | false => rfl
        | true =>
          rcases valid_iff.1 h with h | h
          · exact absurd h hne
          · exact absurd ⟨h.1, h.2.1, h.2.2.1, h.2.2.2.1⟩ hb
      rw [hv]
      refine Ok.of_vcC tt_ok Tryd.func38 rfl rfl (by show 1 ≤ _; decide) 0 (hlt_ok (by rfl)) fun c0 => ?_
      repeat' (first | (refine SS_ ?_) | (refine Seq.val (two_eq two_rat (by rfl) (by rfl) false (decide_eq_false h0)) (by rfl) (by rfl) ?_) | (refine VC.drawm (id := 3) [(0, 0), (1, 1), (2, 3), (3, 7), (4, 15), (5, 31), (6, 63), (7, 127), (8, 255), (9, 511), (10, 1023), (11, 2047), (12, 4095), (13, 8191), (14, 16383), (15, 32767), (16, 65535), (17, 131071), (18, 262143), (19, 524287), (20, 1048575), (21, 2097151), (22, 524287), (23, 4718591), (24, 16777215), (25, 33554431), (26, 67108863), (27, 134217727)] [28] (by rfl) (by kernel_rfl) (by rfl) ?_) | (refine VC.litF (by rfl) LFA_ ?_) | (refine DD_ ?_) | (refine DSeq.lit2 (by rfl) (by rfl) (by rfl) LT2_ (by rfl) ?_) | (refine DSeq.litC2 (by rfl) (by rfl) (by rfl) (by rfl) (by rfl) (fun hb => ?_) (fun hb => ?_) <;> (fail_if_success (with_reducible have := litT_ hb)) <;> (fail_if_success (with_reducible have := litF_ hb)) <;> (try simp only [HB_] at hb) <;> (try (exfalso; first | omega | (cases hb; done)))) | fail)
      all_goals ((refine retC_mk ([(2, .bool false)]) ([]) 1 (Sim.less [] (by rfl) R_ R_) (retQ_ok (by rfl) ([]) (fun i av h => h) ⟨?_, ?_⟩)) <;> rfl)
theorem proper_ok (r : Rq) (hr : R64 r) : Ok Tryd.prog 56 [] [] (.pair (ratA r) .nul) (fun v h' => v = twoA r.P (den r) ∧ h' = []) := by
  unfold den
  by_cases h0 : r.Q = 0
  · rw [if_pos h0]
    refine Ok.of_vcC tt_ok Tryd.func56 rfl rfl (by show 1 ≤ _; decide) 0 (hlt_ok (by rfl)) fun c0 => ?_
    repeat' (first | (refine SS_ ?_) | (refine VC.litT (by rfl) LTR_ ?_) | fail)
    refine retC_mk [(2, .ptr 1 [])] [(1, twoA r.P 1)] 2 (Sim.less [] (by rfl) R_ R_) (retQ_ok (by rfl) [] nil_sub ⟨rfl, rfl⟩)
  · rw [if_neg h0]
    refine Ok.of_vcC tt_ok Tryd.func56 rfl rfl (by show 1 ≤ _; decide) 0 (hlt_ok (by rfl)) fun c0 => ?_
    repeat' (first | (refine SS_ ?_) | (refine VC.litF (by rfl) LFA_ ?_) | fail)
    refine retC_mk [(2, .ptr 1 [])] [(1, twoA r.P r.Q)] 2 (Sim.less [] (by rfl) R_ R_) (retQ_ok (by rfl) [] nil_sub ⟨rfl, rfl⟩)
theorem both_ok (a b : Rq) (ha : R64 a) (hb : R64 b) : Ok Tryd.prog 37 [] [] (.pair (ratA a) (.pair (ratA b) .nul)) (fun v h' => v = .tup (.pair (twoA a.P (den a)) (.pair (twoA b.P (den b)) (.pair (.bool (both a b)) .nul))) ∧ h' = []) := by
  have c1 := proper_ok a ha
  have c2 := proper_ok b hb
  have c3 := qvalid_ok a ha
  have c4 := qvalid_ok b hb
  unfold both
  generalize valid b = vb at *
  cases hva : valid a
  · rw [hva] at c3
    refine Ok.of_vcC tt_ok Tryd.func37 rfl rfl (by show 2 ≤ _; decide) 0 (hlt_ok (by rfl)) fun c0 => ?_
    repeat' (first | (refine SS_ ?_) | (refine VC.drawT [(0, 0), (1, 1), (2, 0), (3, 7), (4, 0), (5, 31), (6, 63), (7, 127), (8, 255)] 4 (by rfl) (by kernel_rfl) (by rfl) ?_) | (refine DSeq.callp false (c1) Tryd.func56 GOk.nil subG.nil (by rfl) (fastE (by rfl)) (fastH (by rfl)) (by rfl) (by rfl) rfl rfl rfl rfl rfl (by rfl) (by rfl) VW_ NI_ NI_ FR_ ?_) | (refine DSeq.callp false (c2) Tryd.func56 GOk.nil subG.nil (by rfl) (fastE (by rfl)) (fastH (by rfl)) (by rfl) (by rfl) rfl rfl rfl rfl rfl (by rfl) (by rfl) VW_ NI_ NI_ FR_ ?_) | (refine DSeq.callp false (c3) Tryd.func38 GOk.nil subG.nil (by rfl) (fastE (by rfl)) (fastH (by rfl)) (by rfl) (by rfl) rfl rfl rfl rfl rfl (by rfl) (by rfl) VW_ NI_ NI_ FR_ ?_) | (refine SeqT.two 9 10 (by decide +kernel) (by rfl) (by rfl) ?_ ?_) | (refine SeqT.two 9 11 (by decide +kernel) (by rfl) (by rfl) ?_ ?_) | (refine SeqT.one 9 (by decide +kernel) (by rfl) ?_) | (refine SeqT.one 10 (by decide +kernel) (by rfl) ?_) | (refine SeqT.one 11 (by decide +kernel) (by rfl) ?_) | (refine SeqT.one 12 (by decide +kernel) (by rfl) ?_) | (refine SeqT.end (by decide +kernel) ?_) | (refine DSeq.nil (SeqT.drawn (by rfl) (by rfl) ?_)) | (refine DD_ ?_) | fail)
    all_goals refine retC_mk [(4, .ptr 2 []), (5, .ptr 3 []), (6, .bool false)] [(2, twoA a.P (den a)), (3, twoA b.P (den b))] 4 (Sim.less [] (by rfl) R_ R_) (retQ_ok (by rfl) [] nil_sub ⟨rfl, rfl⟩)
  · rw [hva] at c3
    refine Ok.of_vcC tt_ok Tryd.func37 rfl rfl (by show 2 ≤ _; decide) 0 (hlt_ok (by rfl)) fun c0 => ?_
    repeat' (first | (refine SS_ ?_) | (refine VC.drawT [(0, 0), (1, 1), (2, 0), (3, 7), (4, 0), (5, 31), (6, 63), (7, 127), (8, 255)] 4 (by rfl) (by kernel_rfl) (by rfl) ?_) | (refine DSeq.callp false (c1) Tryd.func56 GOk.nil subG.nil (by rfl) (fastE (by rfl)) (fastH (by rfl)) (by rfl) (by rfl) rfl rfl rfl rfl rfl (by rfl) (by rfl) VW_ NI_ NI_ FR_ ?_) | (refine DSeq.callp false (c2) Tryd.func56 GOk.nil subG.nil (by rfl) (fastE (by rfl)) (fastH (by rfl)) (by rfl) (by rfl) rfl rfl rfl rfl rfl (by rfl) (by rfl) VW_ NI_ NI_ FR_ ?_) | (refine DSeq.callp false (c3) Tryd.func38 GOk.nil subG.nil (by rfl) (fastE (by rfl)) (fastH (by rfl)) (by rfl) (by rfl) rfl rfl rfl rfl rfl (by rfl) (by rfl) VW_ NI_ NI_ FR_ ?_) | (refine DSeq.callp false (c4) Tryd.func38 GOk.nil subG.nil (by rfl) (fastE (by rfl)) (fastH (by rfl)) (by rfl) (by rfl) rfl rfl rfl rfl rfl (by rfl) (by rfl) VW_ NI_ NI_ FR_ ?_) | (refine SeqT.two 9 10 (by decide +kernel) (by rfl) (by rfl) ?_ ?_) | (refine SeqT.two 9 11 (by decide +kernel) (by rfl) (by rfl) ?_ ?_) | (refine SeqT.one 9 (by decide +kernel) (by rfl) ?_) | (refine SeqT.one 10 (by decide +kernel) (by rfl) ?_) | (refine SeqT.one 11 (by decide +kernel) (by rfl) ?_) | (refine SeqT.one 12 (by decide +kernel) (by rfl) ?_) | (refine SeqT.end (by decide +kernel) ?_) | (refine DSeq.nil (SeqT.drawn (by rfl) (by rfl) ?_)) | (refine DD_ ?_) | fail)
    all_goals refine retC_mk [(4, .ptr 2 []), (5, .ptr 3 []), (6, .bool vb)] [(2, twoA a.P (den a)), (3, twoA b.P (den b))] 4 (Sim.less [] (by rfl) R_ R_) (retQ_ok (by rfl) [] nil_sub ⟨rfl, rfl⟩)
theorem qsum_ok (a b : Rq) (ha : R64 a) (hb : R64 b) : Ok Tryd.prog 61 [] [] (.pair (ratA a) (.pair (ratA b) (.pair (.int .i64 1) .nul))) (fun v h' => v = .tup (.pair (ratA (addV a b)) (.pair (.int .i64 (addE a b)) .nul)) ∧ h' = []) := by
  have cb := both_ok a b ha hb
  unfold addV addE
  cases hbo : both a b with
  | false =>
    rw [hbo] at cb
    rw [if_neg (by decide), if_neg (by decide)]
    refine Ok.of_vcC tt_ok Tryd.func61 rfl rfl (by show 3 ≤ _; decide) 0 (hlt_ok (by rfl)) fun c0 => ?_
    repeat' (first | (refine SS_ ?_) | (refine Seq.callp false (cb) Tryd.func37 GOk.nil subG.nil (by rfl) (by rfl) rfl rfl rfl rfl rfl (by rfl) rfl VW_ NI_ NI_ FR_ ?_) | (refine VC.litT (by rfl) LTR_ ?_) | fail)
    refine retC_mk [(6, .ptr 2 []), (7, .int .i64 1)] [(2, ratA rz)] 3 (Sim.less [] (by rfl) R_ R_) (retQ_ok (by rfl) [] nil_sub ⟨rfl, rfl⟩)
  | true =>
    rw [hbo] at cb
    rw [if_pos rfl, if_pos rfl]
    have hab : valid a = true ∧ valid b = true := by unfold both at hbo; simpa using hbo
    obtain ⟨⟨a1, a2⟩, ap⟩ := valid_b hab.1
    obtain ⟨⟨b1, b2⟩, bp⟩ := valid_b hab.2
    obtain ⟨f1, f2, f3⟩ := add_fit hab.1 hab.2
    obtain ⟨g1, g2, g3, g4⟩ := add_bd hab.1 hab.2
    have cs1 := size_ok (den a) ⟨by omega, by omega⟩
    have cs2 := size_ok (den b) ⟨by omega, by omega⟩
    rw [show Rt.absI (den a) = den a from if_neg (by omega)] at cs1
    rw [show Rt.absI (den b) = den b from if_neg (by omega)] at cs2
    have cg := gcd_ok (den a) (den b) ⟨by omega, by omega⟩ ⟨by omega, by omega⟩
    have hg := gI_pos (x := den a) (y := den b) (.inl (by omega))
    have hg2 := gI_le (x := den a) (y := den b) (by omega)
    have hone : 1 * b.P * (den a / gI (den a) (den b)) = b.P * (den a / gI (den a) (den b)) := by rw [Int.one_mul]
    have hadd : addP a b = a.P * (den b / gI (den a) (den b)) + 1 * b.P * (den a / gI (den a) (den b)) := by rw [hone]; rfl
    have haddQ : addQ a b = den a / gI (den a) (den b) * den b := rfl
    have cm := make_ok (addP a b) (addQ a b) ⟨by omega, by omega⟩ ⟨by omega, by omega⟩
    generalize mkV (addP a b) (addQ a b) = V at *
    generalize mkErr (addP a b) (addQ a b) = E at *
    rw [hadd, haddQ] at cm
    rw [hadd] at g3
    rw [haddQ] at g4
    generalize gI (den a) (den b) = G at *
    refine Ok.of_vcC tt_ok Tryd.func61 rfl rfl (by show 3 ≤ _; decide) 0 (hlt_ok (by rfl)) fun c0 => ?_
    repeat' (first | (refine SS_ ?_) | (refine Seq.callp false (cb) Tryd.func37 GOk.nil subG.nil (by rfl) (by rfl) rfl rfl rfl rfl rfl (by rfl) rfl VW_ NI_ NI_ FR_ ?_) | (refine VC.drawm (id := 4) [(0, 0), (1, 1), (2, 3), (3, 0), (4, 8), (5, 31), (6, 63), (7, 127)] [8] (by rfl) (by kernel_rfl) (by rfl) ?_) | (refine VC.drawm (id := 5) [(0, 0), (1, 1), (2, 0), (3, 4), (4, 0), (5, 28), (6, 63), (7, 0), (8, 0), (9, 256), (10, 896), (11, 0), (12, 2048), (13, 0), (14, 14336), (15, 32640), (16, 65535)] [17] (by rfl) (by kernel_rfl) (by rfl) ?_) | (refine VC.drawm (id := 6) [(0, 0), (1, 0), (2, 2), (3, 0), (4, 14), (5, 0), (6, 32), (7, 126), (8, 255), (9, 511), (10, 511)] [11, 12] (by rfl) (by kernel_rfl) (by rfl) ?_) | (refine DSeq.callp false (cs1) Tryd.func58 GOk.nil subG.nil (by rfl) (fastE (by rfl)) (fastH (by rfl)) (by rfl) (by rfl) rfl rfl rfl rfl rfl (by rfl) (by rfl) VW_ NI_ NI_ FR_ ?_) | (refine DSeq.callp false (cs2) Tryd.func58 GOk.nil subG.nil (by rfl) (fastE (by rfl)) (fastH (by rfl)) (by rfl) (by rfl) rfl rfl rfl rfl rfl (by rfl) (by rfl) VW_ NI_ NI_ FR_ ?_) | (refine DSeq.callp false (cg) Tryd.func57 GOk.nil subG.nil (by rfl) (fastE (by rfl)) (fastH (by rfl)) (by rfl) (by rfl) rfl rfl rfl rfl rfl (by rfl) (by rfl) VW_ NI_ NI_ FR_ ?_) | (refine DSeq.callp false (cm) Tryd.func47 GOk.nil subG.nil (by rfl) (fastE (by rfl)) (fastH (by rfl)) (by rfl) (by rfl) rfl rfl rfl rfl rfl (by rfl) (by rfl) VW_ NI_ NI_ FR_ ?_) | (refine VC.litF (by rfl) LFA_ ?_) | (refine DD_ ?_) | fail)
    refine retC_mk [(6, .ptr 2 []), (7, .int .i64 E)] [(2, ratA V)] 3 (Sim.less [] (by rfl) R_ R_) (retQ_ok (by rfl) [] nil_sub ⟨rfl, rfl⟩)
theorem qadd_ok (a b : Rq) (ha : R64 a) (hb : R64 b) : Ok Tryd.prog 46 [] [] (.pair (ratA a) (.pair (ratA b) .nul)) (fun v h' => v = .tup (.pair (ratA (addV a b)) (.pair (.int .i64 (addE a b)) .nul)) ∧ h' = []) := by
  have cb := qsum_ok a b ha hb
  generalize addV a b = V at *
  generalize addE a b = E at *
  refine Ok.of_vcC tt_ok Tryd.func46 rfl rfl (by show 2 ≤ _; decide) 0 (hlt_ok (by rfl)) fun c0 => ?_
  repeat' (first | (refine SS_ ?_) | (refine Seq.callp false (cb) Tryd.func61 GOk.nil subG.nil (by rfl) (by rfl) rfl rfl rfl rfl rfl (by rfl) rfl VW_ NI_ NI_ FR_ ?_) | fail)
  refine retC_mk [(4, .ptr 2 []), (5, .int .i64 E)] [(2, ratA V)] 3 (Sim.less [] (by rfl) R_ R_) (retQ_ok (by rfl) [] nil_sub ⟨rfl, rfl⟩)
theorem mul_ok (a b : Rq) (ha : R64 a) (hb : R64 b) : Ok Tryd.prog 48 [] [] (.pair (ratA a) (.pair (ratA b) .nul)) (fun v h' => v = .tup (.pair (ratA (mulV a b)) (.pair (.int .i64 (mulE a b)) .nul)) ∧ h' = []) := by
  have cb := both_ok a b ha hb
  unfold mulV mulE
  cases hbo : both a b with
  | false =>
    rw [hbo] at cb
    rw [if_neg (by decide), if_neg (by decide)]
    refine Ok.of_vcC tt_ok Tryd.func48 rfl rfl (by show 2 ≤ _; decide) 0 (hlt_ok (by rfl)) fun c0 => ?_
    repeat' (first | (refine SS_ ?_) | (refine Seq.callp false (cb) Tryd.func37 GOk.nil subG.nil (by rfl) (by rfl) rfl rfl rfl rfl rfl (by rfl) rfl VW_ NI_ NI_ FR_ ?_) | (refine VC.litT (by rfl) LTR_ ?_) | fail)
    refine retC_mk [(4, .ptr 2 []), (5, .int .i64 1)] [(2, ratA rz)] 3 (Sim.less [] (by rfl) R_ R_) (retQ_ok (by rfl) [] nil_sub ⟨rfl, rfl⟩)
  | true =>
    rw [hbo] at cb
    rw [if_pos rfl, if_pos rfl]
    have hab : valid a = true ∧ valid b = true := by unfold both at hbo; simpa using hbo
    obtain ⟨⟨a1, a2⟩, ap⟩ := valid_b hab.1
    obtain ⟨⟨b1, b2⟩, bp⟩ := valid_b hab.2
    have m1 := mul_bd2 ap bp
    have m2 := mul_bd2 (x := den a) (y := den b) ⟨by omega, a2⟩ ⟨by omega, b2⟩
    have cm := make_ok (a.P * b.P) (den a * den b) ⟨by omega, by omega⟩ ⟨by omega, by omega⟩
    generalize mkV (a.P * b.P) (den a * den b) = V at *
    generalize mkErr (a.P * b.P) (den a * den b) = E at *
    refine Ok.of_vcC tt_ok Tryd.func48 rfl rfl (by show 2 ≤ _; decide) 0 (hlt_ok (by rfl)) fun c0 => ?_
    repeat' (first | (refine SS_ ?_) | (refine Seq.callp false (cb) Tryd.func37 GOk.nil subG.nil (by rfl) (by rfl) rfl rfl rfl rfl rfl (by rfl) rfl VW_ NI_ NI_ FR_ ?_) | (refine Seq.callp false (cm) Tryd.func47 GOk.nil subG.nil (by rfl) (by rfl) rfl rfl rfl rfl rfl (by rfl) rfl VW_ NI_ NI_ FR_ ?_) | (refine VC.litF (by rfl) LFA_ ?_) | fail)
    refine retC_mk [(4, .ptr 2 []), (5, .int .i64 E)] [(2, ratA V)] 3 (Sim.less [] (by rfl) R_ R_) (retQ_ok (by rfl) [] nil_sub ⟨rfl, rfl⟩)
theorem cmp_ok (a b : Rq) (ha : R64 a) (hb : R64 b) (hva : valid a = true) (hvb : valid b = true) : Ok Tryd.prog 17 [] [] (.pair (ratA a) (.pair (ratA b) .nul)) (fun v h' => v = .int .i64 (cmpR a b) ∧ h' = []) := by
  have cb := both_ok a b ha hb
  have hbo : both a b = true := by unfold both; rw [hva, hvb]; rfl
  unfold cmpR
  rw [hbo] at cb ⊢
  rw [if_pos rfl]
  obtain ⟨⟨a1, a2⟩, ap⟩ := valid_b hva
  obtain ⟨⟨b1, b2⟩, bp⟩ := valid_b hvb
  have m1 := mul_bd2 (x := a.P) (y := den b) ap ⟨by omega, b2⟩
  have m2 := mul_bd2 (x := b.P) (y := den a) bp ⟨by omega, a2⟩
  by_cases h1 : a.P * den b = b.P * den a
  · rw [if_pos h1]
    refine Ok.of_vcC tt_ok Tryd.func17 rfl rfl (by show 2 ≤ _; decide) 0 (hlt_ok (by rfl)) fun c0 => ?_
    repeat' (first | (refine SS_ ?_) | (refine Seq.callp false (cb) Tryd.func37 GOk.nil subG.nil (by rfl) (by rfl) rfl rfl rfl rfl rfl (by rfl) rfl VW_ NI_ NI_ FR_ ?_) | (refine VC.drawm (id := 2) [(0, 0), (1, 1), (2, 0), (3, 4), (4, 15), (5, 0), (6, 32), (7, 0), (8, 128), (9, 480), (10, 31)] [11] (by rfl) (by kernel_rfl) (by rfl) ?_) | (refine VC.litT (by rfl) LTR_ ?_) | (refine DD_ ?_) | fail)
    (refine retC_mk ([(4, .int .i64 0)]) ([]) 2 (Sim.less [] (by rfl) R_ R_) (retQ_ok (by rfl) ([]) (fun i av h => h) ⟨?_, ?_⟩)) <;> rfl
  · rw [if_neg h1]
    by_cases h2 : a.P * den b < b.P * den a
    · rw [if_pos h2]
      refine Ok.of_vcC tt_ok Tryd.func17 rfl rfl (by show 2 ≤ _; decide) 0 (hlt_ok (by rfl)) fun c0 => ?_
      repeat' (first | (refine SS_ ?_) | (refine Seq.callp false (cb) Tryd.func37 GOk.nil subG.nil (by rfl) (by rfl) rfl rfl rfl rfl rfl (by rfl) rfl VW_ NI_ NI_ FR_ ?_) | (refine VC.drawm (id := 2) [(0, 0), (1, 1), (2, 0), (3, 4), (4, 15), (5, 0), (6, 32), (7, 0), (8, 128), (9, 480), (10, 31)] [11] (by rfl) (by kernel_rfl) (by rfl) ?_) | (refine VC.litT (by rfl) LTR_ ?_) | (refine VC.litF (by rfl) LFA_ ?_) | (refine DD_ ?_) | fail)
      (refine retC_mk ([(4, .int .i64 (-1))]) ([]) 2 (Sim.less [] (by rfl) R_ R_) (retQ_ok (by rfl) ([]) (fun i av h => h) ⟨?_, ?_⟩)) <;> rfl
    · rw [if_neg h2]
      refine Ok.of_vcC tt_ok Tryd.func17 rfl rfl (by show 2 ≤ _; decide) 0 (hlt_ok (by rfl)) fun c0 => ?_
      repeat' (first | (refine SS_ ?_) | (refine Seq.callp false (cb) Tryd.func37 GOk.nil subG.nil (by rfl) (by rfl) rfl rfl rfl rfl rfl (by rfl) rfl VW_ NI_ NI_ FR_ ?_) | (refine VC.drawm (id := 2) [(0, 0), (1, 1), (2, 0), (3, 4), (4, 15), (5, 0), (6, 32), (7, 0), (8, 128), (9, 480), (10, 31)] [11] (by rfl) (by kernel_rfl) (by rfl) ?_) | (refine VC.litF (by rfl) LFA_ ?_) | (refine DD_ ?_) | fail)
      (refine retC_mk ([(4, .int .i64 1)]) ([]) 2 (Sim.less [] (by rfl) R_ R_) (retQ_ok (by rfl) ([]) (fun i av h => h) ⟨?_, ?_⟩)) <;> rfl
end Go.Proofs.YtdbebdjnpckfdaaDoor
