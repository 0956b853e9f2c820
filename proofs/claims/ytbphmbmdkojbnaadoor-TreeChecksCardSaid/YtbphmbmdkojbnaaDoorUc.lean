
/- dioramalaw39.TreeProved. -/
import Derived.Test.YtbphmbmdkojbnaaDoorUz
set_option linter.unusedSimpArgs false
set_option linter.unusedVariables false
namespace Go.Proofs.YtbphmbmdkojbnaaDoor
open Go.V Go.RowKit Go.U Go.L
def resL2 (n : Nat) (L : List (List UInt8)) : AV := .tup (.pair (.rsl true n 16 (fun i => digA (L.getD i []))) (.pair (.int .i64 0) .nul))
def resP2 (n p : Int) (m : Nat) (L : List (List UInt8)) : AV := .tup (.pair (.pair (.int .i64 n) (.pair (.int .i64 p) (.pair (.rsl true m 16 (fun i => digA (L.getD i []))) .nul))) (.pair (.int .i64 0) .nul))
theorem longerR_len (x : List (List UInt8)) (k : Nat) (hk : k ≤ x.length) (d : Nat) (hd : x.length ≤ 2 ^ d) : (longerR x k).2 = 0 ∧ (longerR x k).1.length ≤ d + 1 := by
  unfold longerR
  rw [if_neg (by omega)]
  by_cases h : x.length = 0
  · rw [if_pos h]; exact ⟨rfl, by simp⟩
  · rw [if_neg h]
    refine ⟨rfl, ?_⟩
    show (rootsD x _).length ≤ _
    unfold rootsD
    rw [List.length_map]
    exact Tree.steps_log _ 0 _ (by omega) d hd
theorem longerR_DOk (x : List (List UInt8)) (k : Nat) (hk : k ≤ x.length) (d : Nat) (hd : x.length ≤ 2 ^ d) (hd2 : d ≤ 100) : DOk (longerR x k).1 := by
  refine ⟨by have := (longerR_len x k hk d hd).2; omega, fun y hy => ?_⟩
  unfold longerR at hy
  rw [if_neg (by omega)] at hy
  by_cases h : x.length = 0
  · rw [if_pos h] at hy
    simp at hy; rw [hy]; exact rootB_length _
  · rw [if_neg h] at hy
    obtain ⟨z, hz, rfl⟩ := List.mem_map.1 hy
    have := Tree.rest_mem 0 x.length (by omega) z hz
    exact rootD_length _ _ _ (by omega)
theorem rootsD_DOk (x : List (List UInt8)) (R : List (Nat × Nat)) (hR : R.length ≤ 1000) (hR2 : ∀ z ∈ R, z.1 < z.2) : DOk (rootsD x R) := by
  refine ⟨by unfold rootsD; rw [List.length_map]; omega, fun y hy => ?_⟩
  obtain ⟨z, hz, rfl⟩ := List.mem_map.1 hy
  exact rootD_length _ _ _ (by have := hR2 z hz; omega)
set_option maxHeartbeats 4000000 in
set_option maxRecDepth 10000 in
theorem lawProved_ok (l : List Int) (hl : IOk l) (fr : Int) (hfr : i64B fr) (to_ : Int) (hto : i64B to_) (n : Int) (hn : i64B n) : Ok Tryd.prog 6 gK [] (.pair (intsV l) (.pair (.int .i64 fr) (.pair (.int .i64 to_) (.pair (.int .i64 n) .nul)))) (fun r h' => r = .bool true ∧ h' = []) := by
  have cx := leaves_st l hl
  have hx := leaves_LOk l
  have hxl := (leavesR_length l).2
  generalize leavesR l = x at *
  have c1 := root_ok x hx
  have cl := lives_ok
  have hR := rootB_length x
  have ck := around_ok n ((x.length : Nat) + 1) hn
  have bk := around_lt n ((x.length : Nat) + 1) (by omega)
  obtain ⟨k, hk⟩ : ∃ k : Nat, aroundI n ((x.length : Nat) + 1) = k := ⟨(aroundI n ((x.length : Nat) + 1)).toNat, by omega⟩
  rw [hk] at ck bk
  have c2 := longer_st x hx (by omega) k
  have c3 := (root_ok (x.take k) (hx.take k)).args (args' := .pair (.rsl false (((k : Nat) : Int).toNat - 0) 1 (fun i => .str (x.getD (0 + i) []))) .nul) (Imp.pair (Imp.rsl (by rw [List.length_take]; omega) (fun e => by cases e) fun i hi => Imp.of_eq (by rw [List.length_take] at hi; rw [getD_take (by omega), Nat.zero_add])) (Imp.refl _))
  have hR3 := rootB_length (x.take k)
  have c4 := fun d hd hd2 => extends_ok (rootB (x.take k)) (rootB x) hR3 hR k x.length (longerR x k).1 (longerR_DOk x k (by omega) d hd hd2)
  have e4 := extendsE_longer x (by omega) k (by omega)
  rw [e4] at c4
  have e5 := fun d hd => longerR_len x k (by omega) d hd
  have e6 := (e5 10 (by simp; omega)).1
  rw [show resLT (longerR x k) = .tup (.pair (digsT (longerR x k).1) (.pair (.int .i64 (longerR x k).2) .nul)) from rfl, e6] at c2
  have hxx : x.length = 0 ∨ ∃ a b : Nat, a < x.length ∧ a + 1 + b ≤ x.length ∧ aroundI fr (x.length : Nat) = a ∧ aroundI to_ ((x.length : Nat) - (a : Int)) = b := by
    rcases Nat.eq_zero_or_pos x.length with h | h
    · exact .inl h
    · have b1 := around_lt fr (x.length : Nat) (by omega)
      obtain ⟨a, ha⟩ : ∃ a : Nat, aroundI fr (x.length : Nat) = a := ⟨(aroundI fr (x.length : Nat)).toNat, by omega⟩
      rw [ha] at b1
      have b2 := around_lt to_ ((x.length : Nat) - (a : Int)) (by omega)
      exact .inr ⟨a, (aroundI to_ ((x.length : Nat) - (a : Int))).toNat, by omega, by omega, ha, by omega⟩
  refine Ok.of_vc tt_ok Tryd.func6 rfl rfl (by show 4 ≤ _; decide) 0 (fun i av h => by cases h) fun c0 => ?_
  repeat' (first | (refine SS_ ?_) | (refine VC.loop (fun d : Nat => ⟨[(11, .int .i64 (d : Nat)), (10, .ptr 0 []), (9, strsT x), (8, .bool false), (3, .int .i64 n), (2, .int .i64 to_), (1, .int .i64 fr)], [(0, digA (rootB x))], gK, 1⟩) (fun d => d ≤ 5 ∧ (d = 0 ∨ 2 ^ (d - 1) < x.length)) (fun d => 6 - d) 0 ⟨by omega, by omega⟩ (by refine Sim.less [] (by rfl) ?_ ?_ <;> (repeat' (first | exact EnvLe.nil | exact HeapLe.nil | with_reducible apply EnvLe.cons | with_reducible apply HeapLe.cons | (with_reducible refine RelA.int ?_; first | (refine Keep.mk ?_; first | with_reducible rfl | omega | decide) | skip) | exact rfl | exact ⟨rfl, rfl⟩ | (with_reducible refine RelA.rsl ?_; intro i hi) | (with_reducible refine RelA.arr ?_; intro i hi) | with_reducible refine RelA.pair ?_ ?_ | with_reducible refine RelA.rptr ?_ | (with_reducible refine RelA.rslw ?_; intro i hi) | (refine RelA.rsl ?_; intro i hi) | (refine RelA.rslw ?_; intro i hi) | (refine RelA.arr ?_; intro i hi) | refine RelA.pair ?_ ?_ | refine RelA.tup ?_ | ((first | refine RelA.rslL (by first | rfl | ((try simp only [List.length_take, List.length_drop, List.length_append, List.length_cons, List.length_nil, List.length_map, List.length_range]); omega)) ?_ | refine RelA.rslT (by first | rfl | ((try simp only [List.length_take, List.length_drop, List.length_append, List.length_cons, List.length_nil, List.length_map, List.length_range]); omega)) ?_ | refine RelA.arrL (by first | rfl | ((try simp only [List.length_take, List.length_drop, List.length_append, List.length_cons, List.length_nil, List.length_map, List.length_range]); omega)) ?_); intro i hi; (try simp (disch := omega) only [getD_take, getD_drop, Nat.zero_add, Int.toNat_natCast])) | exact RelA.bif_int | refine RelA.fn ?_ ?_)) <;> (try with_reducible refine Keep.mk ?_)) fun d hd => ?_; obtain ⟨d1, d2⟩ := hd) | (refine Seq.lit (by rfl) (by rfl) LT2_ ?_) | (refine Seq.callq false (cx) Tryd.func9 GG_ SG_ (by rfl) rfl rfl rfl (by rfl) rfl VW_ NI_ NI_ FR_ ?_) | (refine Seq.callq false (c1) Tryd.func11 GG_ SG_ (by rfl) rfl rfl rfl (by rfl) rfl VW_ NI_ NI_ FR_ ?_) | (refine VC.litT (by rfl) LTR_ ?_) | (refine VC.litF (by rfl) LFA_ ?_) | (refine DD_ ?_) | (refine DSeq.lit2 (by rfl) (by rfl) (by rfl) LT2_ (by rfl) ?_) | (refine DSeq.callq false (cx) Tryd.func9 GG_ SG_ (by rfl) (fastE (by rfl)) (fastH (by rfl)) (by rfl) rfl rfl rfl (by rfl) (by rfl) VW_ NI_ NI_ FR_ ?_) | (refine DSeq.callq false (c1) Tryd.func11 GG_ SG_ (by rfl) (fastE (by rfl)) (fastH (by rfl)) (by rfl) rfl rfl rfl (by rfl) (by rfl) VW_ NI_ NI_ FR_ ?_) | ((refine retQ_ok (by rfl) [] nil_sub ⟨?_, rfl⟩); try rfl) | (refine Seq.litC (by rfl) (by rfl) (fun hb => ?_) (fun hb => ?_) <;> (fail_if_success (with_reducible have := litT_ hb)) <;> (fail_if_success (with_reducible have := litF_ hb)) <;> (try simp only [decide_eq_true_eq, decide_eq_false_iff_not, Bool.not_eq_true', Bool.not_eq_false', Bool.or_eq_true, Bool.or_eq_false_iff, Bool.and_eq_true, Bool.and_eq_false_iff] at hb) <;> (try (exfalso; first | omega | (cases hb; done)))) | (refine VC.cond (by rfl) (fun hb => ?_) (fun hb => ?_) <;> (fail_if_success (with_reducible have := litT_ hb)) <;> (fail_if_success (with_reducible have := litF_ hb)) <;> (try simp only [decide_eq_true_eq, decide_eq_false_iff_not, Bool.not_eq_true', Bool.not_eq_false', Bool.or_eq_true, Bool.or_eq_false_iff, Bool.and_eq_true, Bool.and_eq_false_iff] at hb) <;> (try (exfalso; first | omega | (cases hb; done)))) | (refine DSeq.litC2 (by rfl) (by rfl) (by rfl) (by rfl) (by rfl) (fun hb => ?_) (fun hb => ?_) <;> (fail_if_success (with_reducible have := litT_ hb)) <;> (fail_if_success (with_reducible have := litF_ hb)) <;> (try simp only [decide_eq_true_eq, decide_eq_false_iff_not, Bool.not_eq_true', Bool.not_eq_false', Bool.or_eq_true, Bool.or_eq_false_iff, Bool.and_eq_true, Bool.and_eq_false_iff] at hb) <;> (try (exfalso; first | omega | (cases hb; done)))))
  · rw [shl_i64 (d := d) (by omega)] at hb
    have h32 : d ≠ 5 := fun e => by rw [e] at hb; omega
    refine ⟨d + 1, ⟨by omega, .inr (by rw [Nat.add_sub_cancel]; omega)⟩, by omega, ?_⟩
    refine Sim.less [] (by rfl) ?_ ?_ <;> (repeat' (first | exact EnvLe.nil | exact HeapLe.nil | with_reducible apply EnvLe.cons | with_reducible apply HeapLe.cons | (with_reducible refine RelA.int ?_; first | (refine Keep.mk ?_; first | with_reducible rfl | omega | decide) | skip) | exact rfl | exact ⟨rfl, rfl⟩ | (with_reducible refine RelA.rsl ?_; intro i hi) | (with_reducible refine RelA.arr ?_; intro i hi) | with_reducible refine RelA.pair ?_ ?_ | with_reducible refine RelA.rptr ?_ | (with_reducible refine RelA.rslw ?_; intro i hi) | (refine RelA.rsl ?_; intro i hi) | (refine RelA.rslw ?_; intro i hi) | (refine RelA.arr ?_; intro i hi) | refine RelA.pair ?_ ?_ | refine RelA.tup ?_ | ((first | refine RelA.rslL (by first | rfl | ((try simp only [List.length_take, List.length_drop, List.length_append, List.length_cons, List.length_nil, List.length_map, List.length_range]); omega)) ?_ | refine RelA.rslT (by first | rfl | ((try simp only [List.length_take, List.length_drop, List.length_append, List.length_cons, List.length_nil, List.length_map, List.length_range]); omega)) ?_ | refine RelA.arrL (by first | rfl | ((try simp only [List.length_take, List.length_drop, List.length_append, List.length_cons, List.length_nil, List.length_map, List.length_range]); omega)) ?_); intro i hi; (try simp (disch := omega) only [getD_take, getD_drop, Nat.zero_add, Int.toNat_natCast])) | exact RelA.bif_int | refine RelA.fn ?_ ?_)) <;> (try with_reducible refine Keep.mk ?_)
  rw [shl_i64 (d := d) (by omega)] at hb
  have hd : x.length ≤ 2 ^ d := by omega
  have c4 := c4 d hd (by omega)
  have e5 := e5 d hd
  have hL := longerR_DOk x k (by omega) d hd (by omega)
  have e5 := e5.2
  clear e6 e4 hb
  rcases hxx with hx0 | ⟨a, b, h1, h2, ha, hb⟩
  · generalize (longerR x k).1 = L at *
    generalize rootB x = R at *
    generalize rootB (x.take k) = R3 at *
    repeat' (first | (refine SS_ ?_) | (refine VC.drawm (id := 8) [(0, 0), (1, 1), (2, 3), (3, 7), (4, 15), (5, 7), (6, 39), (7, 127), (8, 255), (9, 511), (10, 1023), (11, 1023), (12, 4095), (13, 8191), (14, 1023), (15, 1023), (16, 1023), (17, 66559), (18, 1023), (19, 524287), (20, 1048575), (21, 2097151)] [] (by rfl) (by kernel_rfl) (by rfl) ?_) | (refine VC.drawn2 (id := 8) [(0, 0), (1, 1), (2, 3), (3, 7), (4, 15), (5, 7), (6, 39), (7, 127), (8, 255), (9, 511), (10, 1023), (11, 1023), (12, 4095), (13, 8191), (14, 1023), (15, 1023), (16, 1023), (17, 66559), (18, 1023), (19, 524287), (20, 1048575), (21, 2097151)] [] (by rfl) (by kernel_rfl) (by rfl) (by rfl) ?_) | (refine Seq.lit (by rfl) (by rfl) LT2_ ?_) | (refine Seq.callq false (ck) Tryd.func10 GG_ SG_ (by rfl) rfl rfl rfl (by rfl) rfl VW_ NI_ NI_ FR_ ?_) | (refine Seq.callq false (c2) Tryd.func15 GG_ SG_ (by rfl) rfl rfl rfl (by rfl) rfl VW_ NI_ NI_ FR_ ?_) | (refine Seq.callq false (c3) Tryd.func11 GG_ SG_ (by rfl) rfl rfl rfl (by rfl) rfl VW_ NI_ NI_ FR_ ?_) | (refine Seq.callq false (c4) Tryd.func22 GG_ SG_ (by rfl) rfl rfl rfl (by rfl) rfl VW_ NI_ NI_ FR_ ?_) | (refine Seq.callq false (cl) Tryd.func18 GG_ SG_ (by rfl) rfl rfl rfl (by rfl) rfl VW_ NI_ NI_ FR_ ?_) | (refine VC.litT (by rfl) LTR_ ?_) | (refine VC.litF (by rfl) LFA_ ?_) | (refine DD_ ?_) | (refine DSeq.lit2 (by rfl) (by rfl) (by rfl) LT2_ (by rfl) ?_) | (refine DSeq.callq false (ck) Tryd.func10 GG_ SG_ (by rfl) (fastE (by rfl)) (fastH (by rfl)) (by rfl) rfl rfl rfl (by rfl) (by rfl) VW_ NI_ NI_ FR_ ?_) | (refine DSeq.callq false (c2) Tryd.func15 GG_ SG_ (by rfl) (fastE (by rfl)) (fastH (by rfl)) (by rfl) rfl rfl rfl (by rfl) (by rfl) VW_ NI_ NI_ FR_ ?_) | (refine DSeq.callq false (c3) Tryd.func11 GG_ SG_ (by rfl) (fastE (by rfl)) (fastH (by rfl)) (by rfl) rfl rfl rfl (by rfl) (by rfl) VW_ NI_ NI_ FR_ ?_) | (refine DSeq.callq false (c4) Tryd.func22 GG_ SG_ (by rfl) (fastE (by rfl)) (fastH (by rfl)) (by rfl) rfl rfl rfl (by rfl) (by rfl) VW_ NI_ NI_ FR_ ?_) | (refine DSeq.callq false (cl) Tryd.func18 GG_ SG_ (by rfl) (fastE (by rfl)) (fastH (by rfl)) (by rfl) rfl rfl rfl (by rfl) (by rfl) VW_ NI_ NI_ FR_ ?_) | ((refine retQ_ok (by rfl) [] nil_sub ⟨?_, rfl⟩); try rfl) | (refine Seq.litC (by rfl) (by rfl) (fun hb => ?_) (fun hb => ?_) <;> (fail_if_success (with_reducible have := litT_ hb)) <;> (fail_if_success (with_reducible have := litF_ hb)) <;> (try simp only [decide_eq_true_eq, decide_eq_false_iff_not, Bool.not_eq_true', Bool.not_eq_false', Bool.or_eq_true, Bool.or_eq_false_iff, Bool.and_eq_true, Bool.and_eq_false_iff] at hb) <;> (try (exfalso; first | omega | (cases hb; done)))) | (refine VC.cond (by rfl) (fun hb => ?_) (fun hb => ?_) <;> (fail_if_success (with_reducible have := litT_ hb)) <;> (fail_if_success (with_reducible have := litF_ hb)) <;> (try simp only [decide_eq_true_eq, decide_eq_false_iff_not, Bool.not_eq_true', Bool.not_eq_false', Bool.or_eq_true, Bool.or_eq_false_iff, Bool.and_eq_true, Bool.and_eq_false_iff] at hb) <;> (try (exfalso; first | omega | (cases hb; done)))) | (refine DSeq.litC2 (by rfl) (by rfl) (by rfl) (by rfl) (by rfl) (fun hb => ?_) (fun hb => ?_) <;> (fail_if_success (with_reducible have := litT_ hb)) <;> (fail_if_success (with_reducible have := litF_ hb)) <;> (try simp only [decide_eq_true_eq, decide_eq_false_iff_not, Bool.not_eq_true', Bool.not_eq_false', Bool.or_eq_true, Bool.or_eq_false_iff, Bool.and_eq_true, Bool.and_eq_false_iff] at hb) <;> (try (exfalso; first | omega | (cases hb; done)))))
  · have ca := around_ok fr (x.length : Nat) hfr
    have cb := around_ok to_ ((x.length : Nat) - (a : Int)) hto
    rw [ha] at ca
    rw [hb] at cb
    have c5 := prove_st x hx (by omega) a ((a : Int) + 1 + b)
    have e7 : proveR x a ((a : Int) + 1 + b) = ⟨x.length, a, rootsD x (Tree.rest a (a + 1 + b) 0 x.length), 0⟩ := by
      unfold proveR
      rw [if_neg (by omega), Int.toNat_natCast, show ((a : Int) + 1 + b).toNat = a + 1 + b by omega]
    have e8 := checkE_proved x (by omega) a (a + 1 + b) (by omega) (by omega)
    have hlog := Tree.rest_log a (a + 1 + b) 0 x.length (by omega) d hd (by omega) (by omega)
    have hD := rootsD_DOk x (Tree.rest a (a + 1 + b) 0 x.length) (by omega) (fun z hz => (Tree.rest_mem 0 x.length (by omega) z hz).2.1)
    have hDl : (rootsD x (Tree.rest a (a + 1 + b) 0 x.length)).length ≤ 2 * d := by unfold rootsD; rw [List.length_map]; exact hlog
    rw [e7] at c5
    have c6 := check_ok (rootB x) hR x.length a (rootsD x (Tree.rest a (a + 1 + b) 0 x.length)) ((x.drop a).take (a + 1 + b - a)) (hx.part _ _) (by rw [List.length_take, List.length_drop]; omega) hD
    rw [e8] at c6
    have c6 := c6.args (args' := .pair (digA (rootB x)) (.pair (proofV x.length a (rootsD x (Tree.rest a (a + 1 + b) 0 x.length))) (.pair (.rsl false ((((a : Nat) : Int) + 1 + b).toNat - ((a : Nat) : Int).toNat) 1 (fun i => .str (x.getD (((a : Nat) : Int).toNat + i) []))) .nul))) (Imp.pair (Imp.refl _) (Imp.pair (Imp.refl _) (Imp.pair (Imp.rsl (by rw [List.length_take, List.length_drop]; omega) (fun e => by cases e) fun i hi => Imp.of_eq (by rw [List.length_take, List.length_drop] at hi; rw [getD_take (by omega), getD_drop, Int.toNat_natCast])) (Imp.refl _))))
    clear e7 e8
    generalize rootsD x (Tree.rest a (a + 1 + b) 0 x.length) = D at *
    rw [show resPT ⟨x.length, a, D, 0⟩ = resP2 x.length a D.length D from rfl] at c5
    generalize (longerR x k).1 = L at *
    generalize rootB x = R at *
    generalize rootB (x.take k) = R3 at *
    repeat' (first | (refine SS_ ?_) | (refine VC.drawm (id := 8) [(0, 0), (1, 1), (2, 3), (3, 7), (4, 15), (5, 7), (6, 39), (7, 127), (8, 255), (9, 511), (10, 1023), (11, 1023), (12, 4095), (13, 8191), (14, 1023), (15, 1023), (16, 1023), (17, 66559), (18, 1023), (19, 524287), (20, 1048575), (21, 2097151)] [] (by rfl) (by kernel_rfl) (by rfl) ?_) | (refine VC.drawn2 (id := 8) [(0, 0), (1, 1), (2, 3), (3, 7), (4, 15), (5, 7), (6, 39), (7, 127), (8, 255), (9, 511), (10, 1023), (11, 1023), (12, 4095), (13, 8191), (14, 1023), (15, 1023), (16, 1023), (17, 66559), (18, 1023), (19, 524287), (20, 1048575), (21, 2097151)] [] (by rfl) (by kernel_rfl) (by rfl) (by rfl) ?_) | (refine VC.drawm (id := 15) [(0, 0), (1, 1), (2, 3), (3, 7), (4, 15), (5, 31), (6, 7), (7, 71), (8, 255), (9, 511), (10, 1023), (11, 2047), (12, 2047), (13, 2047), (14, 2047), (15, 2047), (16, 59391), (17, 131071), (18, 262143), (19, 524287), (20, 1048575), (21, 2097151), (22, 4194303)] [23] (by rfl) (by kernel_rfl) (by rfl) ?_) | (refine VC.drawn2 (id := 15) [(0, 0), (1, 1), (2, 3), (3, 7), (4, 15), (5, 31), (6, 7), (7, 71), (8, 255), (9, 511), (10, 1023), (11, 2047), (12, 2047), (13, 2047), (14, 2047), (15, 2047), (16, 59391), (17, 131071), (18, 262143), (19, 524287), (20, 1048575), (21, 2097151), (22, 4194303)] [23] (by rfl) (by kernel_rfl) (by rfl) (by rfl) ?_) | (refine Seq.lit (by rfl) (by rfl) LT2_ ?_) | (refine Seq.callq false (ck) Tryd.func10 GG_ SG_ (by rfl) rfl rfl rfl (by rfl) rfl VW_ NI_ NI_ FR_ ?_) | (refine Seq.callq false (c2) Tryd.func15 GG_ SG_ (by rfl) rfl rfl rfl (by rfl) rfl VW_ NI_ NI_ FR_ ?_) | (refine Seq.callq false (c3) Tryd.func11 GG_ SG_ (by rfl) rfl rfl rfl (by rfl) rfl VW_ NI_ NI_ FR_ ?_) | (refine Seq.callq false (c4) Tryd.func22 GG_ SG_ (by rfl) rfl rfl rfl (by rfl) rfl VW_ NI_ NI_ FR_ ?_) | (refine Seq.callq false (ca) Tryd.func10 GG_ SG_ (by rfl) rfl rfl rfl (by rfl) rfl VW_ NI_ NI_ FR_ ?_) | (refine Seq.callq false (cb) Tryd.func10 GG_ SG_ (by rfl) rfl rfl rfl (by rfl) rfl VW_ NI_ NI_ FR_ ?_) | (refine Seq.callq false (c5) Tryd.func13 GG_ SG_ (by rfl) rfl rfl rfl (by rfl) rfl VW_ NI_ NI_ FR_ ?_) | (refine Seq.callq false (c6) Tryd.func20 GG_ SG_ (by rfl) rfl rfl rfl (by rfl) rfl VW_ NI_ NI_ FR_ ?_) | (refine Seq.callq false (cl) Tryd.func18 GG_ SG_ (by rfl) rfl rfl rfl (by rfl) rfl VW_ NI_ NI_ FR_ ?_) | (refine VC.litT (by rfl) LTR_ ?_) | (refine VC.litF (by rfl) LFA_ ?_) | (refine DD_ ?_) | (refine DSeq.lit2 (by rfl) (by rfl) (by rfl) LT2_ (by rfl) ?_) | (refine DSeq.callq false (ck) Tryd.func10 GG_ SG_ (by rfl) (fastE (by rfl)) (fastH (by rfl)) (by rfl) rfl rfl rfl (by rfl) (by rfl) VW_ NI_ NI_ FR_ ?_) | (refine DSeq.callq false (c2) Tryd.func15 GG_ SG_ (by rfl) (fastE (by rfl)) (fastH (by rfl)) (by rfl) rfl rfl rfl (by rfl) (by rfl) VW_ NI_ NI_ FR_ ?_) | (refine DSeq.callq false (c3) Tryd.func11 GG_ SG_ (by rfl) (fastE (by rfl)) (fastH (by rfl)) (by rfl) rfl rfl rfl (by rfl) (by rfl) VW_ NI_ NI_ FR_ ?_) | (refine DSeq.callq false (c4) Tryd.func22 GG_ SG_ (by rfl) (fastE (by rfl)) (fastH (by rfl)) (by rfl) rfl rfl rfl (by rfl) (by rfl) VW_ NI_ NI_ FR_ ?_) | (refine DSeq.callq false (ca) Tryd.func10 GG_ SG_ (by rfl) (fastE (by rfl)) (fastH (by rfl)) (by rfl) rfl rfl rfl (by rfl) (by rfl) VW_ NI_ NI_ FR_ ?_) | (refine DSeq.callq false (cb) Tryd.func10 GG_ SG_ (by rfl) (fastE (by rfl)) (fastH (by rfl)) (by rfl) rfl rfl rfl (by rfl) (by rfl) VW_ NI_ NI_ FR_ ?_) | (refine DSeq.callq false (c5) Tryd.func13 GG_ SG_ (by rfl) (fastE (by rfl)) (fastH (by rfl)) (by rfl) rfl rfl rfl (by rfl) (by rfl) VW_ NI_ NI_ FR_ ?_) | (refine DSeq.callq false (c6) Tryd.func20 GG_ SG_ (by rfl) (fastE (by rfl)) (fastH (by rfl)) (by rfl) rfl rfl rfl (by rfl) (by rfl) VW_ NI_ NI_ FR_ ?_) | (refine DSeq.callq false (cl) Tryd.func18 GG_ SG_ (by rfl) (fastE (by rfl)) (fastH (by rfl)) (by rfl) rfl rfl rfl (by rfl) (by rfl) VW_ NI_ NI_ FR_ ?_) | ((refine retQ_ok (by rfl) [] nil_sub ⟨?_, rfl⟩); try rfl) | (refine Seq.litC (by rfl) (by rfl) (fun hb => ?_) (fun hb => ?_) <;> (fail_if_success (with_reducible have := litT_ hb)) <;> (fail_if_success (with_reducible have := litF_ hb)) <;> (try simp only [decide_eq_true_eq, decide_eq_false_iff_not, Bool.not_eq_true', Bool.not_eq_false', Bool.or_eq_true, Bool.or_eq_false_iff, Bool.and_eq_true, Bool.and_eq_false_iff] at hb) <;> (try (exfalso; first | omega | (cases hb; done)))) | (refine VC.cond (by rfl) (fun hb => ?_) (fun hb => ?_) <;> (fail_if_success (with_reducible have := litT_ hb)) <;> (fail_if_success (with_reducible have := litF_ hb)) <;> (try simp only [decide_eq_true_eq, decide_eq_false_iff_not, Bool.not_eq_true', Bool.not_eq_false', Bool.or_eq_true, Bool.or_eq_false_iff, Bool.and_eq_true, Bool.and_eq_false_iff] at hb) <;> (try (exfalso; first | omega | (cases hb; done)))) | (refine DSeq.litC2 (by rfl) (by rfl) (by rfl) (by rfl) (by rfl) (fun hb => ?_) (fun hb => ?_) <;> (fail_if_success (with_reducible have := litT_ hb)) <;> (fail_if_success (with_reducible have := litF_ hb)) <;> (try simp only [decide_eq_true_eq, decide_eq_false_iff_not, Bool.not_eq_true', Bool.not_eq_false', Bool.or_eq_true, Bool.or_eq_false_iff, Bool.and_eq_true, Bool.and_eq_false_iff] at hb) <;> (try (exfalso; first | omega | (cases hb; done)))))
end Go.Proofs.YtbphmbmdkojbnaaDoor
