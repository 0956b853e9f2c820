
/- wire.GetInt and the reference's: what they decode. -/
import Derived.Test.YthejnchhddggmaaDoorNb
set_option linter.unusedSimpArgs false
set_option linter.unusedVariables false
namespace Go.Proofs.YthejnchhddggmaaDoor
open Go.V Go.RowKit Go.U Go.L Go.Lx
set_option maxRecDepth 10000
set_option maxHeartbeats 4000000
def giT (r : Int × Int × Int) : AV := .tup (.pair (.int .i64 r.1) (.pair (.int .i64 r.2.1) (.pair (.int .i64 r.2.2) .nul)))
theorem xor8z (a : UInt8) : bits .xor .u8 (a.toNat : Int) 0 = (a.toNat : Int) := by
  have := xor8 a 0
  rw [Wire.xor0] at this
  exact this
theorem xor8f (a : UInt8) : bits .xor .u8 (a.toNat : Int) 255 = ((255 - a.toNat : Nat) : Int) := by
  have := xor8 a 255
  rw [Wire.xor255] at this
  exact this
theorem or_shift (m d : Nat) (hm : m < 72057594037927936) (hd : d < 256) : bits .or .u64 (IntKind.u64.wrap ((m : Int) * 2 ^ min (Int.toNat 8) IntKind.u64.bits)) (d : Int) = ((m * 256 + d : Nat) : Int) := by
  have e1 : IntKind.u64.wrap ((m : Int) * 2 ^ min (Int.toNat 8) IntKind.u64.bits) = ((m * 256 : Nat) : Int) := by
    show IntKind.u64.wrap ((m : Int) * 256) = _
    rw [IntKind.wrap_u64]; omega
  rw [e1]
  show IntKind.u64.wrap (((BitVec.ofInt 64 ((m * 256 : Nat) : Int)) ||| (BitVec.ofInt 64 (d : Int))).toNat : Int) = _
  rw [ofInt_nat, ofInt_nat, wrap_u64, BitVec.toNat_or, BitVec.toNat_ofNat, BitVec.toNat_ofNat, Nat.mod_eq_of_lt (by omega), Nat.mod_eq_of_lt (by omega)]
  have h := Nat.shiftLeft_add_eq_or_of_lt (show d < 2 ^ 8 by omega) m
  rw [Nat.shiftLeft_eq] at h
  rw [← h]
theorem fdiv63 (m : Nat) : ((m : Nat) : Int).fdiv (2 ^ min (Int.toNat 63) IntKind.u64.bits) = ((m / 9223372036854775808 : Nat) : Int) := fdiv_pow m 63
theorem not64 (m : Nat) (hm : m < 9223372036854775808) : bits BinOp.xor IntKind.u64 (if IntKind.u64.signed = true then -1 else IntKind.u64.max) ((m : Nat) : Int) = ((18446744073709551615 - m : Nat) : Int) := by
  show IntKind.u64.wrap (((BitVec.ofInt 64 18446744073709551615) ^^^ (BitVec.ofInt 64 ((m : Nat) : Int))).toNat : Int) = _
  have e3 : BitVec.ofInt 64 18446744073709551615 = BitVec.allOnes 64 := by decide
  rw [e3, ofInt_nat, BitVec.allOnes_xor, wrap_u64, BitVec.toNat_not, BitVec.toNat_ofNat]
  omega
/-- What a round finds: the next byte, xored, and the number so far. -/
theorem round_f (b : List UInt8) (V : Nat → Nat) (hv : ∀ i, V (i + 1) = V i * 256 + (b.getD (i + 1) 0 ^^^ 255).toNat) (hvl : ∀ i, V i < 2 ^ (8 * i)) (i : Nat) (hi : i < 8) :
    bits .xor .u8 (((b.getD (1 + ((i : Nat) : Int).toNat) 0).toNat : Nat) : Int) 255 = ((255 - (b.getD (i + 1) 0).toNat : Nat) : Int) ∧
    bits .or .u64 (IntKind.u64.wrap (((V i : Nat) : Int) * 2 ^ min (Int.toNat 8) IntKind.u64.bits)) (bits .xor .u8 (((b.getD (1 + ((i : Nat) : Int).toNat) 0).toNat : Nat) : Int) 255) = ((V (i + 1) : Nat) : Int) := by
  have e : 1 + ((i : Nat) : Int).toNat = i + 1 := by omega
  have h1 := xor8f (b.getD (i + 1) 0)
  have h2 : V i < 72057594037927936 := by
    have := hvl i
    have h3 : 2 ^ (8 * i) ≤ 2 ^ (8 * 7) := Nat.pow_le_pow_right (by decide) (by omega)
    have h4 : (2 : Nat) ^ (8 * 7) = 72057594037927936 := by decide
    omega
  rw [e, h1]
  refine ⟨rfl, ?_⟩
  rw [or_shift _ _ h2 (by omega), hv, Wire.xor255]
theorem round_z (b : List UInt8) (V : Nat → Nat) (hv : ∀ i, V (i + 1) = V i * 256 + (b.getD (i + 1) 0 ^^^ 0).toNat) (hvl : ∀ i, V i < 2 ^ (8 * i)) (i : Nat) (hi : i < 8) :
    bits .xor .u8 (((b.getD (1 + ((i : Nat) : Int).toNat) 0).toNat : Nat) : Int) 0 = (((b.getD (i + 1) 0).toNat : Nat) : Int) ∧
    bits .or .u64 (IntKind.u64.wrap (((V i : Nat) : Int) * 2 ^ min (Int.toNat 8) IntKind.u64.bits)) (bits .xor .u8 (((b.getD (1 + ((i : Nat) : Int).toNat) 0).toNat : Nat) : Int) 0) = ((V (i + 1) : Nat) : Int) := by
  have e : 1 + ((i : Nat) : Int).toNat = i + 1 := by omega
  have h1 := xor8z (b.getD (i + 1) 0)
  have h2 : V i < 72057594037927936 := by
    have := hvl i
    have h3 : 2 ^ (8 * i) ≤ 2 ^ (8 * 7) := Nat.pow_le_pow_right (by decide) (by omega)
    have h4 : (2 : Nat) ^ (8 * 7) = 72057594037927936 := by decide
    omega
  rw [e, h1]
  refine ⟨rfl, ?_⟩
  rw [or_shift _ _ h2 (b.getD (i + 1) 0).toNat_lt, hv, Wire.xor0]
theorem wireGet_ok (fr : Bool) (b : List UInt8) (hl : b.length ≤ 1000000000000) : Ok Tryd.prog 36 [] [] (.pair (bytesA fr b) .nul) (fun r h' => r = giT (Wire.getI b) ∧ h' = []) := by
  by_cases h0 : b.length = 0
  · have hE : Wire.getI b = (0, 0, 3) := by unfold Wire.getI; rw [if_pos h0]
    rw [hE]
    refine Ok.of_vcC tt_ok Tryd.func36 rfl rfl (by show 1 ≤ _; decide) 0 (hlt_ok (by rfl)) fun c0 => ?_
    repeat' (first | (refine SS_ ?_) | (refine VC.litT (by rfl) LTR_ ?_) | fail)
    (refine retC_mk ([(2, .int .i64 0), (3, .int .i64 0), (4, .int .i64 3)]) ([]) 0 (Sim.less [] (by rfl) R_ R_) (retQ_ok (by rfl) ([]) (fun i av h => h) ⟨?_, ?_⟩)) <;> rfl
  · have hz := xor8z (b.getD (Int.toNat 0) 0)
    have hf := xor8f (b.getD (Int.toNat 0) 0)
    have hE : Wire.getI b = (if 8 < Wire.kOf (b.getD (Int.toNat 0) 0) then (0, 0, 2)
        else if b.length ≤ Wire.kOf (b.getD (Int.toNat 0) 0) then (0, 0, 3)
        else if 0 < Wire.kOf (b.getD (Int.toNat 0) 0) ∧ (b.getD (Int.toNat 1) 0 ^^^ Wire.fl (b.getD (Int.toNat 0) 0)).toNat = 0 then (0, 0, 2)
        else if 9223372036854775808 ≤ Wire.valI (Wire.fl (b.getD (Int.toNat 0) 0)) b (Wire.kOf (b.getD (Int.toNat 0) 0)) then (0, 0, 2)
        else (Wire.neg (b.getD (Int.toNat 0) 0) (Wire.valI (Wire.fl (b.getD (Int.toNat 0) 0)) b (Wire.kOf (b.getD (Int.toNat 0) 0))), ((Wire.kOf (b.getD (Int.toNat 0) 0) : Nat) : Int) + 1, 0) : Int × Int × Int) := by
      conv => lhs; unfold Wire.getI
      rw [if_neg h0]; rfl
    have hb0 := (b.getD (Int.toNat 0) 0).toNat_lt
    have hb1 := (b.getD (Int.toNat 1) 0).toNat_lt
    have hz1 := xor8z (b.getD (Int.toNat 1) 0)
    have hf1 := xor8f (b.getD (Int.toNat 1) 0)
    by_cases hs : (b.getD (Int.toNat 0) 0).toNat < 128
    · obtain ⟨e1, e2⟩ := Wire.kOf_neg hs
      rw [e1, Wire.xor255, e2] at hE
      by_cases p1 : 8 < 127 - (b.getD (Int.toNat 0) 0).toNat
      · rw [if_pos p1] at hE
        rw [hE]
        refine Ok.of_vcC tt_ok Tryd.func36 rfl rfl (by show 1 ≤ _; decide) 0 (hlt_ok (by rfl)) fun c0 => ?_
        repeat' (first | (refine SS_ ?_) | (refine VC.litT (by rfl) LTR_ ?_) | (refine VC.litF (by rfl) LFA_ ?_) | fail)
        (refine retC_mk ([(2, .int .i64 0), (3, .int .i64 0), (4, .int .i64 2)]) ([]) 0 (Sim.less [] (by rfl) R_ R_) (retQ_ok (by rfl) ([]) (fun i av h => h) ⟨?_, ?_⟩)) <;> rfl
      rw [if_neg p1] at hE
      by_cases p2 : b.length ≤ 127 - (b.getD (Int.toNat 0) 0).toNat
      · rw [if_pos p2] at hE
        rw [hE]
        refine Ok.of_vcC tt_ok Tryd.func36 rfl rfl (by show 1 ≤ _; decide) 0 (hlt_ok (by rfl)) fun c0 => ?_
        repeat' (first | (refine SS_ ?_) | (refine VC.litT (by rfl) LTR_ ?_) | (refine VC.litF (by rfl) LFA_ ?_) | fail)
        (refine retC_mk ([(2, .int .i64 0), (3, .int .i64 0), (4, .int .i64 3)]) ([]) 0 (Sim.less [] (by rfl) R_ R_) (retQ_ok (by rfl) ([]) (fun i av h => h) ⟨?_, ?_⟩)) <;> rfl
      rw [if_neg p2] at hE
      by_cases p3 : 0 < 127 - (b.getD (Int.toNat 0) 0).toNat ∧ 255 - (b.getD (Int.toNat 1) 0).toNat = 0
      · rw [if_pos p3] at hE
        rw [hE]
        refine Ok.of_vcC tt_ok Tryd.func36 rfl rfl (by show 1 ≤ _; decide) 0 (hlt_ok (by rfl)) fun c0 => ?_
        repeat' (first | (refine SS_ ?_) | (refine Seq.lit (by rfl) (by rfl) LT2_ ?_) | (refine VC.litT (by rfl) LTR_ ?_) | (refine VC.litF (by rfl) LFA_ ?_) | fail)
        (refine retC_mk ([(2, .int .i64 0), (3, .int .i64 0), (4, .int .i64 2)]) ([]) 0 (Sim.less [] (by rfl) R_ R_) (retQ_ok (by rfl) ([]) (fun i av h => h) ⟨?_, ?_⟩)) <;> rfl
      rw [if_neg p3] at hE
      obtain ⟨K, hK⟩ : ∃ K, K = 127 - (b.getD (Int.toNat 0) 0).toNat := ⟨_, rfl⟩
      rw [← hK] at hE p1 p2 p3
      have hv0 : Wire.valI 255 b 0 = 0 := rfl
      have hv := Wire.valI_succ 255 b
      have hvl := Wire.valI_lt 255 b
      generalize Wire.valI 255 b = V at *
      refine Ok.of_vcC tt_ok Tryd.func36 rfl rfl (by show 1 ≤ _; decide) 0 (hlt_ok (by rfl)) fun c0 => ?_
      repeat' (first | (refine SS_ ?_) | (refine VC.litT (by rfl) LTR_ ?_) | (refine VC.litF (by rfl) LFA_ ?_) | (refine Seq.litC (by rfl) (by rfl) (fun hb => ?_) (fun hb => ?_) <;> (fail_if_success (with_reducible have := litT_ hb)) <;> (fail_if_success (with_reducible have := litF_ hb)) <;> (try simp only [HB_] at hb) <;> (try (exfalso; first | omega | (cases hb; done)))) | fail)
      all_goals
        refine VC.loop (fun i : Nat => ⟨[(48, .int .i64 (i : Nat)), (47, .int .i64 (K : Nat)), (46, .rsl false K 1 (fun i => .int .u8 (b.getD (1 + i) 0).toNat)), (7, .int .u64 (V i : Nat)), (5, .int .u8 255), (6, .int .i64 (K : Nat))], [], [], 0⟩) (fun i => i ≤ K) (fun i => K - i) 0 (by omega) (by ((first | exact (Sim.less [] (by rfl) R_ R_) | (refine Sim.less [] (by rfl) ?_ ?_ <;> (repeat' (first | (exact EnvLe.nil) | (exact HeapLe.nil) | (with_reducible apply EnvLe.cons) | ((with_reducible refine RelA.int ?_; first | (refine Keep.mk ?_; first | with_reducible rfl | omega | decide) | skip)) | (exact rfl) | (((first | refine RelA.rslL (by first | rfl | ((try simp only [List.length_take, List.length_drop, List.length_append, List.length_cons, List.length_nil, List.length_map, List.length_range]); omega)) ?_ | refine RelA.rslT (by first | rfl | ((try simp only [List.length_take, List.length_drop, List.length_append, List.length_cons, List.length_nil, List.length_map, List.length_range]); omega)) ?_ | refine RelA.arrL (by first | rfl | ((try simp only [List.length_take, List.length_drop, List.length_append, List.length_cons, List.length_nil, List.length_map, List.length_range]); omega)) ?_); intro i hi; (try simp only [List.length_take, List.length_drop] at hi); (try simp (disch := omega) only [getD_take, getD_drop, Nat.zero_add, Int.toNat_natCast]))) | fail)) <;> (try with_reducible refine Keep.mk ?_)))); all_goals rfl) fun i hi => ?_
        by_cases hik : i < K
        · obtain ⟨x1, x2⟩ := round_f b V hv hvl i (by omega)
          have hbi := (b.getD (i + 1) 0).toNat_lt
          repeat' (first | (refine SS_ ?_) | (refine VC.litT (by rfl) LTR_ ?_) | fail)
          refine ⟨i + 1, by omega, by omega, ?_⟩
          exact (Sim.less [] (by rfl) R_ R_)
        · obtain rfl : i = K := by omega
          have x3 := fdiv63 (V i)
          by_cases p4 : 9223372036854775808 ≤ V i
          · rw [if_pos p4] at hE
            rw [hE]
            repeat' (first | (refine SS_ ?_) | (refine VC.litT (by rfl) LTR_ ?_) | (refine VC.litF (by rfl) LFA_ ?_) | fail)
            (refine retC_mk ([(2, .int .i64 0), (3, .int .i64 0), (4, .int .i64 2)]) ([]) 0 (Sim.less [] (by rfl) R_ R_) (retQ_ok (by rfl) ([]) (fun i av h => h) ⟨?_, ?_⟩)) <;> rfl
          · rw [if_neg p4] at hE
            have x4 := not64 (V i) (by omega)
            unfold Wire.neg at hE
            rw [if_pos hs] at hE
            rw [hE]
            repeat' (first | (refine SS_ ?_) | (refine VC.litT (by rfl) LTR_ ?_) | (refine VC.litF (by rfl) LFA_ ?_) | fail)
            refine Seq.ev0 false tt_ok (by rfl) (by (first | exact trivial | exact u8_in _ rfl | exact u32_in _ rfl | ((with_reducible refine AllP.guard ?_); simp only [AllP, inI, fitV, maxK, inK, inbL, inb, List.append, List.cons_append, List.nil_append, true_and, and_true]; first | done | omega))) rfl rfl rfl ?_
            rw [x4]
            have x5 : IntKind.i64.wrap ((18446744073709551615 - V i : Nat) : Int) = -1 - ((V i : Nat) : Int) := by rw [IntKind.wrap_i64]; omega
            rw [x5]
            repeat' (first | (refine SS_ ?_) | fail)
            (refine retC_mk ([(2, .int .i64 (-1 - (V i : Nat))), (3, .int .i64 ((i : Nat) + 1)), (4, .int .i64 0)]) ([]) 0 (Sim.less [] (by rfl) R_ R_) (retQ_ok (by rfl) ([]) (fun i av h => h) ⟨?_, ?_⟩)) <;> rfl
    · obtain ⟨e1, e2⟩ := Wire.kOf_pos hs
      rw [e1, Wire.xor0, e2] at hE
      by_cases p1 : 8 < (b.getD (Int.toNat 0) 0).toNat - 128
      · rw [if_pos p1] at hE
        rw [hE]
        refine Ok.of_vcC tt_ok Tryd.func36 rfl rfl (by show 1 ≤ _; decide) 0 (hlt_ok (by rfl)) fun c0 => ?_
        repeat' (first | (refine SS_ ?_) | (refine VC.litT (by rfl) LTR_ ?_) | (refine VC.litF (by rfl) LFA_ ?_) | fail)
        (refine retC_mk ([(2, .int .i64 0), (3, .int .i64 0), (4, .int .i64 2)]) ([]) 0 (Sim.less [] (by rfl) R_ R_) (retQ_ok (by rfl) ([]) (fun i av h => h) ⟨?_, ?_⟩)) <;> rfl
      rw [if_neg p1] at hE
      by_cases p2 : b.length ≤ (b.getD (Int.toNat 0) 0).toNat - 128
      · rw [if_pos p2] at hE
        rw [hE]
        refine Ok.of_vcC tt_ok Tryd.func36 rfl rfl (by show 1 ≤ _; decide) 0 (hlt_ok (by rfl)) fun c0 => ?_
        repeat' (first | (refine SS_ ?_) | (refine VC.litT (by rfl) LTR_ ?_) | (refine VC.litF (by rfl) LFA_ ?_) | fail)
        (refine retC_mk ([(2, .int .i64 0), (3, .int .i64 0), (4, .int .i64 3)]) ([]) 0 (Sim.less [] (by rfl) R_ R_) (retQ_ok (by rfl) ([]) (fun i av h => h) ⟨?_, ?_⟩)) <;> rfl
      rw [if_neg p2] at hE
      by_cases p3 : 0 < (b.getD (Int.toNat 0) 0).toNat - 128 ∧ (b.getD (Int.toNat 1) 0).toNat = 0
      · rw [if_pos p3] at hE
        rw [hE]
        refine Ok.of_vcC tt_ok Tryd.func36 rfl rfl (by show 1 ≤ _; decide) 0 (hlt_ok (by rfl)) fun c0 => ?_
        repeat' (first | (refine SS_ ?_) | (refine Seq.lit (by rfl) (by rfl) LT2_ ?_) | (refine VC.litT (by rfl) LTR_ ?_) | (refine VC.litF (by rfl) LFA_ ?_) | fail)
        (refine retC_mk ([(2, .int .i64 0), (3, .int .i64 0), (4, .int .i64 2)]) ([]) 0 (Sim.less [] (by rfl) R_ R_) (retQ_ok (by rfl) ([]) (fun i av h => h) ⟨?_, ?_⟩)) <;> rfl
      rw [if_neg p3] at hE
      obtain ⟨K, hK⟩ : ∃ K, K = (b.getD (Int.toNat 0) 0).toNat - 128 := ⟨_, rfl⟩
      rw [← hK] at hE p1 p2 p3
      have hv0 : Wire.valI 0 b 0 = 0 := rfl
      have hv := Wire.valI_succ 0 b
      have hvl := Wire.valI_lt 0 b
      generalize Wire.valI 0 b = V at *
      refine Ok.of_vcC tt_ok Tryd.func36 rfl rfl (by show 1 ≤ _; decide) 0 (hlt_ok (by rfl)) fun c0 => ?_
      repeat' (first | (refine SS_ ?_) | (refine VC.litF (by rfl) LFA_ ?_) | (refine Seq.litC (by rfl) (by rfl) (fun hb => ?_) (fun hb => ?_) <;> (fail_if_success (with_reducible have := litT_ hb)) <;> (fail_if_success (with_reducible have := litF_ hb)) <;> (try simp only [HB_] at hb) <;> (try (exfalso; first | omega | (cases hb; done)))) | fail)
      all_goals
        refine VC.loop (fun i : Nat => ⟨[(48, .int .i64 (i : Nat)), (47, .int .i64 (K : Nat)), (46, .rsl false K 1 (fun i => .int .u8 (b.getD (1 + i) 0).toNat)), (7, .int .u64 (V i : Nat)), (5, .int .u8 0), (6, .int .i64 (K : Nat))], [], [], 0⟩) (fun i => i ≤ K) (fun i => K - i) 0 (by omega) (by ((first | exact (Sim.less [] (by rfl) R_ R_) | (refine Sim.less [] (by rfl) ?_ ?_ <;> (repeat' (first | (exact EnvLe.nil) | (exact HeapLe.nil) | (with_reducible apply EnvLe.cons) | ((with_reducible refine RelA.int ?_; first | (refine Keep.mk ?_; first | with_reducible rfl | omega | decide) | skip)) | (exact rfl) | (((first | refine RelA.rslL (by first | rfl | ((try simp only [List.length_take, List.length_drop, List.length_append, List.length_cons, List.length_nil, List.length_map, List.length_range]); omega)) ?_ | refine RelA.rslT (by first | rfl | ((try simp only [List.length_take, List.length_drop, List.length_append, List.length_cons, List.length_nil, List.length_map, List.length_range]); omega)) ?_ | refine RelA.arrL (by first | rfl | ((try simp only [List.length_take, List.length_drop, List.length_append, List.length_cons, List.length_nil, List.length_map, List.length_range]); omega)) ?_); intro i hi; (try simp only [List.length_take, List.length_drop] at hi); (try simp (disch := omega) only [getD_take, getD_drop, Nat.zero_add, Int.toNat_natCast]))) | fail)) <;> (try with_reducible refine Keep.mk ?_)))); all_goals rfl) fun i hi => ?_
        by_cases hik : i < K
        · obtain ⟨x1, x2⟩ := round_z b V hv hvl i (by omega)
          have hbi := (b.getD (i + 1) 0).toNat_lt
          repeat' (first | (refine SS_ ?_) | (refine VC.litT (by rfl) LTR_ ?_) | fail)
          refine ⟨i + 1, by omega, by omega, ?_⟩
          exact (Sim.less [] (by rfl) R_ R_)
        · obtain rfl : i = K := by omega
          have x3 := fdiv63 (V i)
          by_cases p4 : 9223372036854775808 ≤ V i
          · rw [if_pos p4] at hE
            rw [hE]
            repeat' (first | (refine SS_ ?_) | (refine VC.litT (by rfl) LTR_ ?_) | (refine VC.litF (by rfl) LFA_ ?_) | fail)
            (refine retC_mk ([(2, .int .i64 0), (3, .int .i64 0), (4, .int .i64 2)]) ([]) 0 (Sim.less [] (by rfl) R_ R_) (retQ_ok (by rfl) ([]) (fun i av h => h) ⟨?_, ?_⟩)) <;> rfl
          · rw [if_neg p4] at hE
            have x4 := not64 (V i) (by omega)
            unfold Wire.neg at hE
            rw [if_neg hs] at hE
            rw [hE]
            repeat' (first | (refine SS_ ?_) | (refine VC.litF (by rfl) LFA_ ?_) | fail)
            (refine retC_mk ([(2, .int .i64 (V i : Nat)), (3, .int .i64 ((i : Nat) + 1)), (4, .int .i64 0)]) ([]) 0 (Sim.less [] (by rfl) R_ R_) (retQ_ok (by rfl) ([]) (fun i av h => h) ⟨?_, ?_⟩)) <;> rfl
end Go.Proofs.YthejnchhddggmaaDoor
