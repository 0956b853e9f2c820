
/- The reference's Public and Sign. -/
import Derived.Test.YthejnchhddggmaaDoorNl
import Derived.Test.YthejnchhddggmaaDoorOg
set_option linter.unusedSimpArgs false
set_option linter.unusedVariables false
namespace Go.Proofs.YthejnchhddggmaaDoor
open Go.V Go.RowKit Go.U Go.L Go.Lx Go.Sg
set_option maxRecDepth 10000
set_option maxHeartbeats 4000000
theorem xor1_odd {x : Nat} (hx : x % 2 = 1) : x ^^^ 1 = x - 1 := by
  have : x = 2 * (x / 2) + 1 := by omega
  rw [this]
  generalize x / 2 = y
  rw [show 2 * y + 1 ^^^ 1 = 2 * y from ?_]; rfl
  apply Nat.eq_of_testBit_eq; intro b
  rw [Nat.testBit_xor]
  cases b with
  | zero => simp [Nat.testBit_zero]
  | succ b => simp [Nat.testBit_succ]; congr 1; omega
theorem xor1_even {x : Nat} (hx : ¬ x % 2 = 1) : x ^^^ 1 = x + 1 := by
  have : x = 2 * (x / 2) := by omega
  rw [this]
  generalize x / 2 = y
  apply Nat.eq_of_testBit_eq; intro b
  rw [Nat.testBit_xor]
  cases b with
  | zero => simp [Nat.testBit_zero]
  | succ b => simp [Nat.testBit_succ]; congr 1; omega
theorem rpublic_ok (seed : List UInt8) (h : Int) (hs : seed.length ≤ 1000000) : Ok Tryd.prog 13 gR [] (.pair (.str seed) (.pair (.int .i64 h) .nul)) (fun r h' => r = (if seed.length = 32 ∧ 0 ≤ h ∧ h ≤ 6 then .tup (.pair (digA (ndD seed h.toNat 0)) (.pair (.int .i64 0) .nul)) else .tup (.pair (.arr 16 1 (fun _ => .int .u8 0)) (.pair (.int .i64 1) .nul))) ∧ h' = []) := by
  have cf := rfits_ok seed h (by omega)
  by_cases hh : seed.length = 32 ∧ 0 ≤ h ∧ h ≤ 6
  · rw [if_pos hh]
    rw [decide_eq_true hh] at cf
    obtain ⟨h0, h1, h2⟩ := hh
    obtain ⟨n, rfl⟩ : ∃ n : Nat, h = n := ⟨h.toNat, by omega⟩
    have c1 := rlevels_ok seed hs n (by omega)
    have hP := ndD_length seed n 0
    rw [Int.toNat_natCast]
    refine Ok.of_vc tt_ok Tryd.func13 rfl rfl (by show 2 ≤ _; decide) 0 (fun i av h => by cases h) fun c0 => ?_
    repeat' (first | (refine SS_ ?_) | (refine Seq.callq false (cf) Tryd.func23 GG_ SG_ (by rfl) rfl rfl rfl (by rfl) rfl VW_ NI_ NI_ FR_ ?_) | (refine Seq.callq false (c1) Tryd.func24 GG_ SG_ (by rfl) rfl rfl rfl (by rfl) rfl VW_ NI_ NI_ FR_ ?_) | (refine VC.litF (by rfl) LFA_ ?_) | fail)
    rw [Int.toNat_natCast, Nat.sub_self, Nat.pow_zero]
    repeat' (first | (refine SS_ ?_) | (((refine retQ_ok (by rfl) [] nil_sub ⟨?_, rfl⟩); try rfl)) | fail)
  · rw [if_neg hh]
    rw [decide_eq_false hh] at cf
    clear hh
    refine Ok.of_vc tt_ok Tryd.func13 rfl rfl (by show 2 ≤ _; decide) 0 (fun i av h => by cases h) fun c0 => ?_
    repeat' (first | (refine SS_ ?_) | (refine Seq.callq false (cf) Tryd.func23 GG_ SG_ (by rfl) rfl rfl rfl (by rfl) rfl VW_ NI_ NI_ FR_ ?_) | (refine VC.litT (by rfl) LTR_ ?_) | (((refine retQ_ok (by rfl) [] nil_sub ⟨?_, rfl⟩); try rfl)) | fail)
theorem rsign_yes (seed : List UInt8) (hs : seed.length = 32) (h i : Nat) (hh : h ≤ 6) (hi : i < 2 ^ h) (msg : List UInt8) (hm : msg.length ≤ 1048576) : Ok Tryd.prog 15 gR [] (.pair (.str seed) (.pair (.int .i64 (h : Nat)) (.pair (.int .i64 (i : Nat)) (.pair (.str msg) .nul)))) (fun r h' => r = .tup (.pair (.str (sigB seed h i msg)) (.pair (.int .i64 0) .nul)) ∧ h' = []) := by
  have h64 : 2 ^ h ≤ 2 ^ 6 := Nat.pow_le_pow_right (by decide) hh
  have e64 : (2 : Nat) ^ 6 = 64 := by decide
  have cf := rfits_ok seed h (by omega)
  rw [decide_eq_true (⟨hs, by omega, by omega⟩ : seed.length = 32 ∧ 0 ≤ (h : Int) ∧ (h : Int) ≤ 6)] at cf
  have hsh := shl_i64 (d := h) (by omega)
  have c1 := rlevels_ok seed (by omega) h hh
  have c3 := refInt_ok (i : Nat) ⟨by omega, by omega⟩
  have hil := Wire.int_length (i : Nat)
  have hip := Wire.int_length_pos (i : Nat)
  have c5 := rDigest_ok (ndD seed h 0) (ndD_length _ _ _) (i : Nat) ⟨by omega, by omega⟩ msg (by omega)
  have c6 := rDigits_ok (msgD (ndD seed h 0) (i : Nat) msg) (msgD_length _ _ _)
  have hcat := catV_length (valS seed i (msgD (ndD seed h 0) (i : Nat) msg)) (fun c => valS_length _ _ _ _)
  have hcat2 := catV_length (fun l => ndD seed l (sib i l : Nat)) (fun l => ndD_length _ _ _)
  have hSB : sigB seed h i msg = Wire.int (i : Nat) ++ catV (valS seed i (msgD (ndD seed h 0) (i : Nat) msg)) 68 ++ catV (fun l => ndD seed l (sib i l : Nat)) h := rfl
  generalize sigB seed h i msg = SB at *
  have hvs : ∀ c, valS seed i (msgD (ndD seed h 0) (i : Nat) msg) c = advN i c 0 (dig (msgD (ndD seed h 0) (i : Nat) msg) c).toNat (startD seed i c) := fun c => rfl
  have hvl := valS_length seed i (msgD (ndD seed h 0) (i : Nat) msg)
  have hdl := dig_le (msgD (ndD seed h 0) (i : Nat) msg)
  generalize valS seed i (msgD (ndD seed h 0) (i : Nat) msg) = V at *
  generalize msgD (ndD seed h 0) (i : Nat) msg = D at *
  have htn : ∀ l : Nat, (fun l : Nat => ndD seed l (sib i l : Nat)) l = ndD seed l (sib i l : Nat) := fun _ => rfl
  have htl : ∀ l : Nat, ((fun l : Nat => ndD seed l (sib i l : Nat)) l).length = 16 := fun l => ndD_length _ _ _
  generalize (fun l : Nat => ndD seed l (sib i l : Nat)) = T at *
  generalize hW : Wire.int (i : Nat) = W at *
  refine Ok.of_vcC tt_ok Tryd.func15 rfl rfl (by show 4 ≤ _; decide) 0 (hlt_ok (by rfl)) fun c0 => ?_
  repeat' (first | (refine SS_ ?_) | (refine Seq.callq false (cf) Tryd.func23 GG_ SG_ (by rfl) rfl rfl rfl (by rfl) rfl VW_ NI_ NI_ FR_ ?_) | (refine Seq.callq false (c1) Tryd.func24 GG_ SG_ (by rfl) rfl rfl rfl (by rfl) rfl VW_ NI_ NI_ FR_ ?_) | (refine VC.litF (by rfl) LFA_ ?_) | fail)
  rw [Int.toNat_natCast, Nat.sub_self, Nat.pow_zero]
  repeat' (first | (refine SS_ ?_) | (refine Seq.str (W) tt_ok (by rfl) (by rfl) (by rfl) (by rfl) (by rfl) (by (first | exact trivial | exact u8_in _ rfl | exact u32_in _ rfl | ((with_reducible refine AllP.guard ?_); simp only [AllP, inI, fitV, maxK, inK, inbL, inb, List.append, List.cons_append, List.nil_append, true_and, and_true]; first | done | omega))) (by rfl) (.inl rfl) (by rfl) rfl (rfl) (fun i hi => by first | exact rfl | simp only [Nat.zero_add]) ?_) | (refine Seq.callq false (c5) Tryd.func17 GG_ SG_ (by rfl) rfl rfl rfl (by rfl) rfl VW_ NI_ NI_ FR_ ?_) | (refine Seq.callq false (c6) Tryd.func11 GG_ SG_ (by rfl) rfl rfl rfl (by rfl) rfl VW_ NI_ NI_ FR_ ?_) | (refine Seq.callq false (c3) Tryd.func30 GG_ SG_ (by rfl) rfl rfl rfl (by rfl) rfl VW_ NI_ NI_ FR_ ?_) | fail)
  refine VC.loop (fun q : Nat => ⟨[(14, .int .i64 (q : Nat)), (13, .str (W ++ catV V q)), (12, .rsl true 68 1 (fun j => .int .i64 (dig D j))), (11, .rsl true (h + 1) 1 (fun l => lvA seed l (2 ^ (h - l)))), (2, .int .i64 (i : Nat)), (1, .int .i64 (h : Nat)), (0, .str seed)], [], gR, 0⟩) (fun q => q ≤ 68) (fun q => 68 - q) 0 (by omega) (by rw [show catV V 0 = [] from rfl, List.append_nil]; exact (Sim.less [] (by rfl) R_ R_)) fun q hq => ?_
  have hLq : (W ++ catV V q).length = W.length + 16 * q := by rw [List.length_append, hcat]
  by_cases hqq : q < 68
  · have d1 := rstart_ok seed (by omega) (i : Nat) (q : Nat) ⟨by omega, by omega⟩ ⟨by omega, by omega⟩
    have hdq := hdl q
    have d2 := radv_ok (i : Nat) (q : Nat) 0 (dig D q) (startD seed i q) (startD_length _ _ _) ⟨by omega, by omega⟩ ⟨by omega, by omega⟩ ⟨by omega, by omega, by omega⟩
    rw [Int.sub_zero, ← hvs q] at d2
    have hv := hvl q
    have d3 := textD_ok (V q) hv
    have e3 : W ++ catV V (q + 1) = (W ++ catV V q) ++ V q := by rw [catV_succ, List.append_assoc]
    generalize startD seed i q = S0 at *
    generalize V q = v at *
    generalize hL : W ++ catV V q = L at *
    generalize hL2 : W ++ catV V (q + 1) = L2 at *
    repeat' (first | (refine SS_ ?_) | (refine VC.drawm (id := 14) [(0, 0), (1, 0), (2, 0), (3, 0), (4, 0), (5, 24), (6, 56), (7, 0), (8, 0), (9, 0), (10, 896), (11, 2046), (12, 4094), (13, 8191)] [14] (by rfl) (by kernel_rfl) (by rfl) ?_) | (refine VC.litT (by rfl) LTR_ ?_) | (refine DD_ ?_) | (refine DSeq.callq false (d1) Tryd.func33 GG_ SG_ (by rfl) (fastE (by rfl)) (fastH (by rfl)) (by rfl) rfl rfl rfl (by rfl) (by rfl) VW_ NI_ NI_ FR_ ?_) | (refine DSeq.callq false (d2) Tryd.func32 GG_ SG_ (by rfl) (fastE (by rfl)) (fastH (by rfl)) (by rfl) rfl rfl rfl (by rfl) (by rfl) VW_ NI_ NI_ FR_ ?_) | (refine DSeq.callq true (d3) Tryd.func31 GG_ SG_ (by rfl) (fastE (by rfl)) (fastH (by rfl)) (by rfl) rfl rfl rfl (by rfl) (by rfl) VW_ NI_ NI_ FR_ ?_) | fail)
    refine ⟨q + 1, by omega, by omega, ?_⟩
    rw [hL2, e3]
    exact (Sim.less [] (by rfl) R_ R_)
  · obtain rfl : q = 68 := by omega
    generalize hX : W ++ catV V 68 = X at *
    repeat' (first | (refine SS_ ?_) | (refine VC.litF (by rfl) LFA_ ?_) | fail)
    refine VC.loop (fun q : Nat => ⟨[(16, .int .i64 (q : Nat)), (15, .int .i64 ((i / 2 ^ q : Nat) : Int)), (13, .str (X ++ catV T q)), (11, .rsl true (h + 1) 1 (fun l => lvA seed l (2 ^ (h - l)))), (1, .int .i64 (h : Nat))], [], gR, 0⟩) (fun q => q ≤ h) (fun q => h - q) 0 (Nat.zero_le _) (by rw [Nat.pow_zero, Nat.div_one, show catV T 0 = [] from rfl, List.append_nil]; exact (Sim.less [] (by rfl) R_ R_)) fun q hq => ?_
    have hXl : X.length = W.length + 16 * 68 := hLq
    have hLz : (X ++ catV T q).length = X.length + 16 * q := by rw [List.length_append, hcat2]
    by_cases hqh : q < h
    · have hx1 : i / 2 ^ q < 2 ^ (h - q) := by
        rw [Nat.div_lt_iff_lt_mul (Nat.pow_pos (by decide)), ← Nat.pow_add, Nat.sub_add_cancel (by omega)]; exact hi
      have e2 : 2 ^ (h - q) = 2 * 2 ^ (h - q - 1) := by
        obtain ⟨d, hd⟩ : ∃ d, h - q = d + 1 := ⟨h - q - 1, by omega⟩
        rw [hd, Nat.add_sub_cancel, Nat.pow_succ]; omega
      have e4 : 2 ^ (h - ((q : Nat) : Int).toNat) = 2 * 2 ^ (h - q - 1) := by rw [Int.toNat_natCast]; exact e2
      have e6 : 2 ^ (h - q) ≤ 2 ^ 6 := Nat.pow_le_pow_right (by decide) (by omega)
      have hs1 : sib i q = i / 2 ^ q ^^^ 1 := rfl
      have hT := htn q
      rw [hs1] at hT
      have hn2 : i / 2 ^ (q + 1) = i / 2 ^ q / 2 := by rw [Nat.pow_succ, Nat.div_div_eq_div_mul]
      generalize hN2 : i / 2 ^ (q + 1) = N2 at *
      generalize i / 2 ^ q = N1 at *
      by_cases hb : N1 % 2 = 1
      · rw [xor1_odd hb] at hT
        have e5 : ndD seed ((q : Nat) : Int).toNat ((((N1 : Int) - 1).toNat : Nat) : Int) = T q := by
          rw [hT, Int.toNat_natCast]; congr 1; omega
        have d3 := textD_ok (ndD seed ((q : Nat) : Int).toNat ((((N1 : Int) - 1).toNat : Nat) : Int)) (ndD_length _ _ _)
        have hv16 := ndD_length seed ((q : Nat) : Int).toNat ((((N1 : Int) - 1).toNat : Nat) : Int)
        have e3 : X ++ catV T (q + 1) = (X ++ catV T q) ++ ndD seed ((q : Nat) : Int).toNat ((((N1 : Int) - 1).toNat : Nat) : Int) := by rw [catV_succ, e5, List.append_assoc]
        generalize hL2 : X ++ catV T (q + 1) = L2 at *
        generalize hL : X ++ catV T q = L at *
        repeat' (first | (refine SS_ ?_) | (refine Seq.callq true (d3) Tryd.func31 GG_ SG_ (by rfl) rfl rfl rfl (by rfl) rfl VW_ NI_ NI_ FR_ ?_) | (refine VC.litT (by rfl) LTR_ ?_) | fail)
        refine ⟨q + 1, by omega, by omega, ?_⟩
        rw [hL2, e3, hN2]
        exact (Sim.less [] (by rfl) R_ R_)
      · rw [xor1_even hb] at hT
        have e5 : ndD seed ((q : Nat) : Int).toNat ((((N1 : Int) + 1).toNat : Nat) : Int) = T q := by
          rw [hT, Int.toNat_natCast]; congr 1
        have d3 := textD_ok (ndD seed ((q : Nat) : Int).toNat ((((N1 : Int) + 1).toNat : Nat) : Int)) (ndD_length _ _ _)
        have hv16 := ndD_length seed ((q : Nat) : Int).toNat ((((N1 : Int) + 1).toNat : Nat) : Int)
        have e3 : X ++ catV T (q + 1) = (X ++ catV T q) ++ ndD seed ((q : Nat) : Int).toNat ((((N1 : Int) + 1).toNat : Nat) : Int) := by rw [catV_succ, e5, List.append_assoc]
        generalize hL2 : X ++ catV T (q + 1) = L2 at *
        generalize hL : X ++ catV T q = L at *
        repeat' (first | (refine SS_ ?_) | (refine Seq.callq true (d3) Tryd.func31 GG_ SG_ (by rfl) rfl rfl rfl (by rfl) rfl VW_ NI_ NI_ FR_ ?_) | (refine VC.litT (by rfl) LTR_ ?_) | (refine VC.litF (by rfl) LFA_ ?_) | fail)
        refine ⟨q + 1, by omega, by omega, ?_⟩
        rw [hL2, e3, hN2]
        exact (Sim.less [] (by rfl) R_ R_)
    · obtain rfl : q = h := by omega
      rw [← hSB]
      repeat' (first | (refine SS_ ?_) | (refine VC.litF (by rfl) LFA_ ?_) | fail)
      (refine retC_mk ([(8, .str SB), (9, .int .i64 0)]) ([]) 0 (Sim.less [] (by rfl) R_ R_) (retQ_ok (by rfl) ([]) (fun i av h => h) ⟨?_, ?_⟩)) <;> rfl
theorem rsign_no (seed : List UInt8) (h i : Int) (msg : List UInt8) (hs : seed.length ≤ 1000000000) (hm : msg.length ≤ 1000000000) (e : Int) (he : (¬ (seed.length = 32 ∧ 0 ≤ h ∧ h ≤ 6) ∧ e = 1) ∨ ((seed.length = 32 ∧ 0 ≤ h ∧ h ≤ 6) ∧ (i < 0 ∨ ((2 ^ h.toNat : Nat) : Int) ≤ i) ∧ e = 22) ∨ ((seed.length = 32 ∧ 0 ≤ h ∧ h ≤ 6) ∧ ¬ (i < 0 ∨ ((2 ^ h.toNat : Nat) : Int) ≤ i) ∧ 1048576 < msg.length ∧ e = 4)) : Ok Tryd.prog 15 gR [] (.pair (.str seed) (.pair (.int .i64 h) (.pair (.int .i64 i) (.pair (.str msg) .nul)))) (fun r h' => r = errS e ∧ h' = []) := by
  have cf := rfits_ok seed h hs
  have hsh := fun d (hd : d ≤ 61) => shl_i64 (d := d) hd
  rcases he with ⟨hh, rfl⟩ | ⟨hh, hi, rfl⟩ | ⟨hh, hi, hml, rfl⟩
  · rw [decide_eq_false hh] at cf
    clear hh
    refine Ok.of_vcC tt_ok Tryd.func15 rfl rfl (by show 4 ≤ _; decide) 0 (hlt_ok (by rfl)) fun c0 => ?_
    repeat' (first | (refine SS_ ?_) | (refine Seq.callq false (cf) Tryd.func23 GG_ SG_ (by rfl) rfl rfl rfl (by rfl) rfl VW_ NI_ NI_ FR_ ?_) | (refine VC.litT (by rfl) LTR_ ?_) | fail)
    (refine retC_mk ([(8, .str []), (9, .int .i64 1)]) ([]) 0 (Sim.less [] (by rfl) R_ R_) (retQ_ok (by rfl) ([]) (fun i av h => h) ⟨?_, ?_⟩)) <;> rfl
  · rw [decide_eq_true hh] at cf
    obtain ⟨h0, h1, h2⟩ := hh
    obtain ⟨n, rfl⟩ : ∃ n : Nat, h = n := ⟨h.toNat, by omega⟩
    have hsh := hsh n (by omega)
    rw [Int.toNat_natCast] at hi
    generalize 2 ^ n = M at *
    by_cases hi0 : i < 0
    · refine Ok.of_vcC tt_ok Tryd.func15 rfl rfl (by show 4 ≤ _; decide) 0 (hlt_ok (by rfl)) fun c0 => ?_
      repeat' (first | (refine SS_ ?_) | (refine Seq.lit (by rfl) (by rfl) LT2_ ?_) | (refine Seq.callq false (cf) Tryd.func23 GG_ SG_ (by rfl) rfl rfl rfl (by rfl) rfl VW_ NI_ NI_ FR_ ?_) | (refine VC.litT (by rfl) LTR_ ?_) | (refine VC.litF (by rfl) LFA_ ?_) | fail)
      (refine retC_mk ([(8, .str []), (9, .int .i64 22)]) ([]) 0 (Sim.less [] (by rfl) R_ R_) (retQ_ok (by rfl) ([]) (fun i av h => h) ⟨?_, ?_⟩)) <;> rfl
    · have hiM : (M : Int) ≤ i := by omega
      refine Ok.of_vcC tt_ok Tryd.func15 rfl rfl (by show 4 ≤ _; decide) 0 (hlt_ok (by rfl)) fun c0 => ?_
      repeat' (first | (refine SS_ ?_) | (refine Seq.lit (by rfl) (by rfl) LT2_ ?_) | (refine Seq.callq false (cf) Tryd.func23 GG_ SG_ (by rfl) rfl rfl rfl (by rfl) rfl VW_ NI_ NI_ FR_ ?_) | (refine VC.litT (by rfl) LTR_ ?_) | (refine VC.litF (by rfl) LFA_ ?_) | fail)
      (refine retC_mk ([(8, .str []), (9, .int .i64 22)]) ([]) 0 (Sim.less [] (by rfl) R_ R_) (retQ_ok (by rfl) ([]) (fun i av h => h) ⟨?_, ?_⟩)) <;> rfl
  · rw [decide_eq_true hh] at cf
    obtain ⟨h0, h1, h2⟩ := hh
    obtain ⟨n, rfl⟩ : ∃ n : Nat, h = n := ⟨h.toNat, by omega⟩
    have hsh := hsh n (by omega)
    rw [Int.toNat_natCast] at hi
    generalize 2 ^ n = M at *
    have hi0 : ¬ i < 0 := fun e => hi (.inl e)
    have hiM : ¬ (M : Int) ≤ i := fun e => hi (.inr e)
    clear hi
    refine Ok.of_vcC tt_ok Tryd.func15 rfl rfl (by show 4 ≤ _; decide) 0 (hlt_ok (by rfl)) fun c0 => ?_
    repeat' (first | (refine SS_ ?_) | (refine Seq.lit (by rfl) (by rfl) LT2_ ?_) | (refine Seq.callq false (cf) Tryd.func23 GG_ SG_ (by rfl) rfl rfl rfl (by rfl) rfl VW_ NI_ NI_ FR_ ?_) | (refine VC.litT (by rfl) LTR_ ?_) | (refine VC.litF (by rfl) LFA_ ?_) | fail)
    (refine retC_mk ([(8, .str []), (9, .int .i64 4)]) ([]) 0 (Sim.less [] (by rfl) R_ R_) (retQ_ok (by rfl) ([]) (fun i av h => h) ⟨?_, ?_⟩)) <;> rfl
end Go.Proofs.YthejnchhddggmaaDoor
