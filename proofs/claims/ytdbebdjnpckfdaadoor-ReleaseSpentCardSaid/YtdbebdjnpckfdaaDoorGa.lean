/- Machine integers as UInt8, UInt32, UInt64: the walk's spellings of their operations, folded. The encoding of integers and byte strings (layer 1) on lists of bytes. No program in sight. wire.Int returns Wire.int. The reference's Int returns Wire.int, too; Bytes and the reference's Bytes return Wire.bytes. wire.Bytes and the reference's Bytes return Wire.bytes. -/
import Derived.WalkKit
import Derived.Test.YtdbebdjnpckfdaaDoorProg
import Derived.Test.YtdbebdjnpckfdaaDoorFa
import Derived.Deep.QuietTactic
import Derived.BigQuiet
import Derived.Lib.Hide
set_option linter.unusedSimpArgs false
set_option linter.unusedVariables false
/- U -/
namespace Go.U
open Go.RowKit
theorem ofInt_nat (n a : Nat) : BitVec.ofInt n (a : Int) = BitVec.ofNat n a := by simp
theorem ofNat_u32 (a : UInt32) : BitVec.ofNat 32 a.toNat = a.toBitVec := by
  apply BitVec.eq_of_toNat_eq; simp
theorem ofNat_u8 (a : UInt8) : BitVec.ofNat 8 a.toNat = a.toBitVec := by
  apply BitVec.eq_of_toNat_eq; simp
theorem wrap_u32 (b : BitVec 32) : IntKind.u32.wrap (b.toNat : Int) = b.toNat := by
  have := b.isLt
  simp only [IntKind.wrap, IntKind.bits, IntKind.signed]; simp; omega
theorem wrap_u8 (b : BitVec 8) : IntKind.u8.wrap (b.toNat : Int) = b.toNat := by
  have := b.isLt
  simp only [IntKind.wrap, IntKind.bits, IntKind.signed]; simp; omega
theorem wrap_u64 (b : BitVec 64) : IntKind.u64.wrap (b.toNat : Int) = b.toNat := by
  have := b.isLt
  simp only [IntKind.wrap, IntKind.bits, IntKind.signed]; simp; omega
theorem xor32 (a b : UInt32) : bits .xor .u32 a.toNat b.toNat = ((a ^^^ b).toNat : Int) := by
  show IntKind.u32.wrap (((BitVec.ofInt 32 (a.toNat : Int)) ^^^ (BitVec.ofInt 32 (b.toNat : Int))).toNat : Int) = _
  rw [ofInt_nat, ofInt_nat, ofNat_u32, ofNat_u32, wrap_u32]; rfl
theorem or32 (a b : UInt32) : bits .or .u32 a.toNat b.toNat = ((a ||| b).toNat : Int) := by
  show IntKind.u32.wrap (((BitVec.ofInt 32 (a.toNat : Int)) ||| (BitVec.ofInt 32 (b.toNat : Int))).toNat : Int) = _
  rw [ofInt_nat, ofInt_nat, ofNat_u32, ofNat_u32, wrap_u32]; rfl
theorem and32 (a b : UInt32) : bits .and .u32 a.toNat b.toNat = ((a &&& b).toNat : Int) := by
  show IntKind.u32.wrap (((BitVec.ofInt 32 (a.toNat : Int)) &&& (BitVec.ofInt 32 (b.toNat : Int))).toNat : Int) = _
  rw [ofInt_nat, ofInt_nat, ofNat_u32, ofNat_u32, wrap_u32]; rfl
theorem xor8 (a b : UInt8) : bits .xor .u8 a.toNat b.toNat = ((a ^^^ b).toNat : Int) := by
  show IntKind.u8.wrap (((BitVec.ofInt 8 (a.toNat : Int)) ^^^ (BitVec.ofInt 8 (b.toNat : Int))).toNat : Int) = _
  rw [ofInt_nat, ofInt_nat, ofNat_u8, ofNat_u8, wrap_u8]; rfl
theorem shr32 (a : UInt32) (k : Nat) (hk : k < 32) : ((a.toNat : Int) / 2 ^ k) = ((a >>> UInt32.ofNat k).toNat : Int) := by
  rw [UInt32.toNat_shiftRight, UInt32.toNat_ofNat', Nat.mod_eq_of_lt (by omega : k < 2 ^ 32), Nat.mod_eq_of_lt hk, Nat.shiftRight_eq_div_pow, Int.natCast_ediv, Int.natCast_pow]; rfl
theorem shl32 (a : UInt32) (k : Nat) (hk : k < 32) : ((a.toNat : Int) * 2 ^ k % 4294967296) = ((a <<< UInt32.ofNat k).toNat : Int) := by
  rw [UInt32.toNat_shiftLeft, UInt32.toNat_ofNat', Nat.mod_eq_of_lt (by omega : k < 2 ^ 32), Nat.mod_eq_of_lt hk, Nat.shiftLeft_eq, Int.natCast_emod, Int.natCast_mul, Int.natCast_pow]; rfl
theorem add32 (a b : UInt32) : ((a.toNat : Int) + b.toNat) % 4294967296 = ((a + b).toNat : Int) := by
  rw [UInt32.toNat_add, Int.natCast_emod, Int.natCast_add]; rfl
end Go.U
/- Wire -/
namespace Wire
/-- The number of digits to the base 256. -/
def nd (m : Nat) : Nat :=
  if m < 1 then 0 else if m < 256 then 1 else if m < 65536 then 2 else if m < 16777216 then 3 else if m < 4294967296 then 4
  else if m < 1099511627776 then 5 else if m < 281474976710656 then 6 else if m < 72057594037927936 then 7 else 8
def mag (n : Int) : Nat := if n < 0 then (-1 - n).toNat else n.toNat
def flip (n : Int) : UInt8 := if n < 0 then 255 else 0
def dig (m j : Nat) : UInt8 := UInt8.ofNat (m / 2 ^ (8 * j))
/-- The last k digits, the most significant one first. -/
def digs (f : UInt8) (m : Nat) : Nat → List UInt8
  | 0 => []
  | k + 1 => (dig m k ^^^ f) :: digs f m k
def int (n : Int) : List UInt8 := (UInt8.ofNat (128 + nd (mag n)) ^^^ flip n) :: digs (flip n) (mag n) (nd (mag n))
def bytes (s : List UInt8) : List UInt8 := int s.length ++ s
theorem digs_length (f : UInt8) (m : Nat) : ∀ k, (digs f m k).length = k
  | 0 => rfl
  | k + 1 => by simp [digs, digs_length f m k]
theorem nd_le (m : Nat) : nd m ≤ 8 := by unfold nd; (repeat' split) <;> omega
theorem int_length (n : Int) : (int n).length ≤ 9 := by have := nd_le (mag n); simp [int, digs_length]; omega
theorem int_length_pos (n : Int) : 1 ≤ (int n).length := by simp [int]
theorem mag_lt (n : Int) (h : -9223372036854775808 ≤ n ∧ n ≤ 9223372036854775807) : mag n < 9223372036854775808 := by unfold mag; split <;> omega
/-- What a search from above finds. -/
theorem nd_of (m k : Nat) (hk : k ≤ 8) (h1 : m < 2 ^ (8 * k)) (h2 : k = 0 ∨ 2 ^ (8 * (k - 1)) ≤ m) : nd m = k := by
  unfold nd
  have : k = 0 ∨ k = 1 ∨ k = 2 ∨ k = 3 ∨ k = 4 ∨ k = 5 ∨ k = 6 ∨ k = 7 ∨ k = 8 := by omega
  rcases this with rfl | rfl | rfl | rfl | rfl | rfl | rfl | rfl | rfl <;> simp at h1 h2 <;> (repeat' split) <;> omega
theorem digs_get (f : UInt8) (m : Nat) : ∀ k i, i < k → (digs f m k)[i]? = some (dig m (k - 1 - i) ^^^ f)
  | 0, i, h => by omega
  | k + 1, 0, _ => by simp [digs]
  | k + 1, i + 1, h => by
    simp only [digs, List.getElem?_cons_succ]
    rw [digs_get f m k i (by omega)]
    congr 3; omega
theorem digs_take (f : UInt8) (m k q : Nat) (hq : 0 < q) (hk : q ≤ k) : (digs f m k).take (k - (q - 1)) = (digs f m k).take (k - q) ++ [dig m (q - 1) ^^^ f] := by
  have e : k - (q - 1) = (k - q) + 1 := by omega
  rw [e, List.take_add_one, digs_get f m k (k - q) (by omega)]
  simp
  congr 1; omega
end Wire
/- Wa -/
namespace Go.Proofs.YtdbebdjnpckfdaaDoor
open Go.RowKit Go.U Go.L
def u8s (l : List UInt8) : List Value := l.map fun b => .int .u8 b.toNat
theorem u8s_length (l : List UInt8) : (u8s l).length = l.length := by simp [u8s]
theorem infoU8 : Info Tryd.prog 150 5 (.int .u8 0) 1 1 := ⟨by kernel_rfl, by kernel_rfl, rfl, by decide⟩
/-- The loop that finds the number of digits, as a fact about a number. -/
theorem top_digit (m k : Nat) (_ : 0 < k) : ((m : Int) / 2 ^ (8 * (k - 1)) ≤ 0) ↔ m < 2 ^ (8 * (k - 1)) := by
  have e : ((m : Int) / 2 ^ (8 * (k - 1))) = ((m / 2 ^ (8 * (k - 1)) : Nat) : Int) := by
    rw [Int.natCast_ediv, Int.natCast_pow]; rfl
  have : 0 < 2 ^ (8 * (k - 1)) := Nat.pow_pos (by decide)
  rw [e, ← Nat.div_eq_zero_iff_lt this]
  generalize m / 2 ^ (8 * (k - 1)) = z
  omega
theorem compl64 (n : Int) (h : -9223372036854775808 ≤ n) (h0 : n < 0) : bits BinOp.xor IntKind.u64 IntKind.u64.max (IntKind.u64.wrap n) = ((Wire.mag n : Nat) : Int) := by
  obtain ⟨m, rfl⟩ : ∃ m : Nat, n = -1 - m := ⟨(-1 - n).toNat, by omega⟩
  have hm : m < 9223372036854775808 := by omega
  have e1 : Wire.mag (-1 - (m : Int)) = m := by unfold Wire.mag; rw [if_pos h0]; omega
  rw [e1]
  have e2 : IntKind.u64.wrap (-1 - (m : Int)) = ((18446744073709551615 - m : Nat) : Int) := by rw [IntKind.wrap_u64]; omega
  rw [e2]
  show IntKind.u64.wrap (((BitVec.ofInt 64 18446744073709551615) ^^^ (BitVec.ofInt 64 ((18446744073709551615 - m : Nat) : Int))).toNat : Int) = _
  have e3 : BitVec.ofInt 64 18446744073709551615 = BitVec.allOnes 64 := by decide
  rw [e3, ofInt_nat, BitVec.allOnes_xor, wrap_u64, BitVec.toNat_not, BitVec.toNat_ofNat]
  omega
theorem wrap64_nonneg (n : Int) (h : n ≤ 9223372036854775807) (h0 : ¬ n < 0) : IntKind.u64.wrap n = ((Wire.mag n : Nat) : Int) := by
  unfold Wire.mag; rw [if_neg h0, IntKind.wrap_u64]; omega
/-- A byte out of a shifted number. -/
theorem byte_of (m t : Nat) : ((m : Int) / 2 ^ (8 * t)) % 256 = ((Wire.dig m t).toNat : Int) := by
  have e : ((m : Int) / 2 ^ (8 * t)) = ((m / 2 ^ (8 * t) : Nat) : Int) := by
    rw [Int.natCast_ediv, Int.natCast_pow]; rfl
  rw [e]; unfold Wire.dig; rw [UInt8.toNat_ofNat']; rfl
theorem first_byte (j : Nat) (hj : j ≤ 8) : (128 : Int) + j = ((UInt8.ofNat (128 + j)).toNat : Int) := by
  rw [UInt8.toNat_ofNat']; omega
theorem u8s_snoc (l : List UInt8) (b : UInt8) : u8s (l ++ [b]) = u8s l ++ [.int .u8 b.toNat] := by simp [u8s]
theorem one1 (k : IntKind) (x : Int) : ∀ u ∈ [Value.int k x], u.oneCell' = true := by intro u hu; simp at hu; subst hu; rfl
/-- A round that appends the next digit. -/
theorem wire_step {w wr : World} {v : Value} {B e j q m : Nat} {f : UInt8} (hq : 0 < q) (hqj : q ≤ j) {x : Int} (hx : x = f.toNat)
    (h : wr.ownsRow B e 1 v (1 + (j - q) + 1) (u8s ((UInt8.ofNat (128 + j) ^^^ f) :: (Wire.digs f m j).take (j - q)) ++ [.int .u8 (bits BinOp.xor IntKind.u8 ((m : Int) / 2 ^ (8 * (q - 1)) % 256) x)])) :
    wr.ownsRow B e 1 v (1 + (j - (q - 1))) (u8s ((UInt8.ofNat (128 + j) ^^^ f) :: (Wire.digs f m j).take (j - (q - 1)))) := by
  rw [Wire.digs_take f m j q hq hqj, ← List.cons_append, u8s_snoc, show 1 + (j - (q - 1)) = 1 + (j - q) + 1 by omega]
  rw [byte_of, hx, xor8] at h
  exact h
theorem wire_start {w : World} {e j m : Nat} {f : UInt8} (hj : j ≤ 8) {x : Int} (hx : x = f.toNat) :
    (w.alloc (.cells #[.int .u8 (bits BinOp.xor IntKind.u8 (128 + j) x)] e)).ownsRow w.heap.size e 1 (.slice (some ⟨w.heap.size, 0, none⟩) 1 1) (1 + (j - j)) (u8s ((UInt8.ofNat (128 + j) ^^^ f) :: (Wire.digs f m j).take (j - j))) := by
  rw [Nat.sub_self, List.take_zero, first_byte j hj, hx, xor8]
  exact ⟨rfl, .inr ⟨w.heap.size, 1, _, rfl, Nat.le_refl _, heap_alloc_new w _, Nat.le_refl _, by unfold maxLen; omega, rfl, rfl⟩⟩
set_option maxHeartbeats 1000000 in
theorem wireInt_neg (n : Int) (w : World) (hn : -9223372036854775808 ≤ n ∧ n ≤ 9223372036854775807) (h0 : n < 0) :
    Calls Tryd.prog 99 #[.int .i64 n] w fun e w' => ∃ v, e = .returned v ∧ w'.ownsRow w.heap.size 5 1 v (Wire.int n).length (u8s (Wire.int n)) ∧ Below w.heap.size w w' := by
  have hm := Wire.mag_lt n hn
  obtain ⟨hn1, hn2⟩ := hn
  have hfin : (Wire.int n) = (UInt8.ofNat (128 + Wire.nd (Wire.mag n)) ^^^ Wire.flip n) :: Wire.digs (Wire.flip n) (Wire.mag n) (Wire.nd (Wire.mag n)) := rfl
  have HF := Lib.hid hfin; clear hfin
  have hx := compl64 n hn1 h0
  have hfl : Wire.flip n = 255 := by simp [Wire.flip, h0]
  rw [hfl] at HF
  clear hfl
  generalize Wire.mag n = m at *
  go_enter Tryd.func99, Tryd.ntmps99
  go_wp2
  go_step3
  go_wp2
  go_step3
  go_wp2
  go_loop [5] (fun k => ∃ j : Nat, j ≤ 8 ∧ m < 2 ^ (8 * j) ∧ k = .int .i64 j) (fun k => (intOf k).toNat)
  case atStart => exact ⟨8, by omega, by omega, rfl⟩
  case round =>
    obtain ⟨j, hj, hmj, rfl⟩ := hrel
    have HJ := Lib.hid hmj
    have HT := Lib.hid (top_digit m j)
    clear hmj
    go_wp2
    case roundEnd =>
      have h1 : 0 < j := by assumption
      have h2 : (m : Int) / 2 ^ (8 * (j - 1)) ≤ 0 := by assumption
      exact ⟨⟨j - 1, by omega, (HT.out h1).1 h2, by go_num⟩, by simp [intOf]; omega⟩
    all_goals
      have hk : Wire.nd m = j := by
        first
        | (have h1 : 0 < (m : Int) / 2 ^ (8 * (j - 1)) := by assumption
           have h2 : 0 < j := by assumption
           exact Wire.nd_of m j hj HJ.out (Or.inr (Nat.le_of_not_lt fun h => by have := (HT.out h2).2 h; omega)))
        | (have h1 : ¬ 0 < j := by assumption
           obtain rfl : j = 0 := by omega
           exact Wire.nd_of m 0 hj HJ.out (Or.inl rfl))
      have HK := Lib.hid hk
      clear hk
      go_loopw [6, 7] (fun v i wr => ∃ q : Nat, q ≤ j ∧ i = .int .i64 (q - 1 : Int) ∧ wr.ownsRow w.heap.size 5 1 v (1 + (j - q)) (u8s ((UInt8.ofNat (128 + j) ^^^ 255) :: (Wire.digs 255 m j).take (j - q))) ∧ Below w.heap.size w wr) (fun _ i _ => (intOf i + 1).toNat)
      case atStart => exact ⟨j, Nat.le_refl _, rfl, wire_start hj rfl, (Below.refl _ _).alloc (Nat.le_refl _) _⟩
      case round =>
        obtain ⟨q, hq, rfl, hown, hb⟩ := hrel
        have hsz := hb.size
        by_cases hq0 : 0 < q
        · have hq1 : (0 : Int) ≤ q - 1 := by omega
          go_wp2_with (at_builtin; refine app1 infoU8 hown hb hsz (by omega) (by unfold maxLen; omega) rfl _ _ rfl rfl rfl rfl (one1 _ _) ?_; intro v' w1 hown1 hb1)
          all_goals exact ⟨⟨q - 1, by omega, by go_num, wire_step (w := w) hq0 hq rfl hown1, hb1⟩, by simp [intOf]; omega⟩
        · obtain rfl : q = 0 := by omega
          go_wp2
          try rw [Exit.noGoto_ret]
          go_ret
          refine ⟨_, rfl, ?_, hb⟩
          have e : (Wire.int n) = (UInt8.ofNat (128 + j) ^^^ 255) :: (Wire.digs 255 m j).take (j - 0) := by
            rw [HF.out, HK.out, Nat.sub_zero, List.take_of_length_le (by rw [Wire.digs_length]; omega)]
          rw [e]
          have e2 : ((UInt8.ofNat (128 + j) ^^^ 255) :: (Wire.digs 255 m j).take (j - 0)).length = 1 + (j - 0) := by
            simp [Wire.digs_length] <;> omega
          rw [e2]
          exact hown
set_option maxHeartbeats 1000000 in
theorem wireInt_pos (n : Int) (w : World) (hn : -9223372036854775808 ≤ n ∧ n ≤ 9223372036854775807) (h0 : ¬ n < 0) :
    Calls Tryd.prog 99 #[.int .i64 n] w fun e w' => ∃ v, e = .returned v ∧ w'.ownsRow w.heap.size 5 1 v (Wire.int n).length (u8s (Wire.int n)) ∧ Below w.heap.size w w' := by
  have hm := Wire.mag_lt n hn
  obtain ⟨hn1, hn2⟩ := hn
  have hfin : (Wire.int n) = (UInt8.ofNat (128 + Wire.nd (Wire.mag n)) ^^^ Wire.flip n) :: Wire.digs (Wire.flip n) (Wire.mag n) (Wire.nd (Wire.mag n)) := rfl
  have HF := Lib.hid hfin; clear hfin
  have hx := wrap64_nonneg n hn2 h0
  have hfl : Wire.flip n = 0 := by simp [Wire.flip, h0]
  rw [hfl] at HF
  clear hfl
  generalize Wire.mag n = m at *
  go_enter Tryd.func99, Tryd.ntmps99
  go_wp2
  go_step3
  go_wp2
  go_step3
  go_wp2
  go_loop [5] (fun k => ∃ j : Nat, j ≤ 8 ∧ m < 2 ^ (8 * j) ∧ k = .int .i64 j) (fun k => (intOf k).toNat)
  case atStart => exact ⟨8, by omega, by omega, rfl⟩
  case round =>
    obtain ⟨j, hj, hmj, rfl⟩ := hrel
    have HJ := Lib.hid hmj
    have HT := Lib.hid (top_digit m j)
    clear hmj
    go_wp2
    case roundEnd =>
      have h1 : 0 < j := by assumption
      have h2 : (m : Int) / 2 ^ (8 * (j - 1)) ≤ 0 := by assumption
      exact ⟨⟨j - 1, by omega, (HT.out h1).1 h2, by go_num⟩, by simp [intOf]; omega⟩
    all_goals
      have hk : Wire.nd m = j := by
        first
        | (have h1 : 0 < (m : Int) / 2 ^ (8 * (j - 1)) := by assumption
           have h2 : 0 < j := by assumption
           exact Wire.nd_of m j hj HJ.out (Or.inr (Nat.le_of_not_lt fun h => by have := (HT.out h2).2 h; omega)))
        | (have h1 : ¬ 0 < j := by assumption
           obtain rfl : j = 0 := by omega
           exact Wire.nd_of m 0 hj HJ.out (Or.inl rfl))
      have HK := Lib.hid hk
      clear hk
      go_loopw [6, 7] (fun v i wr => ∃ q : Nat, q ≤ j ∧ i = .int .i64 (q - 1 : Int) ∧ wr.ownsRow w.heap.size 5 1 v (1 + (j - q)) (u8s ((UInt8.ofNat (128 + j) ^^^ 0) :: (Wire.digs 0 m j).take (j - q))) ∧ Below w.heap.size w wr) (fun _ i _ => (intOf i + 1).toNat)
      case atStart => exact ⟨j, Nat.le_refl _, rfl, wire_start hj rfl, (Below.refl _ _).alloc (Nat.le_refl _) _⟩
      case round =>
        obtain ⟨q, hq, rfl, hown, hb⟩ := hrel
        have hsz := hb.size
        by_cases hq0 : 0 < q
        · have hq1 : (0 : Int) ≤ q - 1 := by omega
          go_wp2_with (at_builtin; refine app1 infoU8 hown hb hsz (by omega) (by unfold maxLen; omega) rfl _ _ rfl rfl rfl rfl (one1 _ _) ?_; intro v' w1 hown1 hb1)
          all_goals exact ⟨⟨q - 1, by omega, by go_num, wire_step (w := w) hq0 hq rfl hown1, hb1⟩, by simp [intOf]; omega⟩
        · obtain rfl : q = 0 := by omega
          go_wp2
          try rw [Exit.noGoto_ret]
          go_ret
          refine ⟨_, rfl, ?_, hb⟩
          have e : (Wire.int n) = (UInt8.ofNat (128 + j) ^^^ 0) :: (Wire.digs 0 m j).take (j - 0) := by
            rw [HF.out, HK.out, Nat.sub_zero, List.take_of_length_le (by rw [Wire.digs_length]; omega)]
          rw [e]
          have e2 : ((UInt8.ofNat (128 + j) ^^^ 0) :: (Wire.digs 0 m j).take (j - 0)).length = 1 + (j - 0) := by
            simp [Wire.digs_length] <;> omega
          rw [e2]
          exact hown
theorem wireInt_any (n : Int) (w : World) (hn : -9223372036854775808 ≤ n ∧ n ≤ 9223372036854775807) :
    Calls Tryd.prog 99 #[.int .i64 n] w fun e w' => ∃ v, e = .returned v ∧ w'.ownsRow w.heap.size 5 1 v (Wire.int n).length (u8s (Wire.int n)) ∧ Below w.heap.size w w' := by
  by_cases h0 : n < 0
  · exact wireInt_neg n w hn h0
  · exact wireInt_pos n w hn h0
end Go.Proofs.YtdbebdjnpckfdaaDoor
/- Wb -/
namespace Go.Proofs.YtdbebdjnpckfdaaDoor
open Go.RowKit Go.U Go.L
theorem snoc_own {w' : World} {B e n n' : Nat} {v : Value} {l : List UInt8} {b : UInt8} {x : Int} (h : w'.ownsRow B e 1 v n (u8s l ++ [.int .u8 x])) (hx : x = b.toNat) (hn : n = n') : w'.ownsRow B e 1 v n' (u8s (l ++ [b])) := by
  subst hx hn; rw [u8s_snoc]; exact h
end Go.Proofs.YtdbebdjnpckfdaaDoor
/- Wc -/
namespace Go.Proofs.YtdbebdjnpckfdaaDoor
open Go.RowKit Go.U Go.L
theorem strT : Tryd.prog.underlying 9 = some .string := by kernel_rfl
theorem u8sT : Tryd.prog.underlying 150 = some (.slice 5) := by kernel_rfl
theorem u8T : Tryd.prog.underlying 5 = some (.int .u8) := by kernel_rfl
theorem one_u8s (l : List UInt8) : ∀ u ∈ u8s l, u.oneCell' = true := by
  intro u hu; obtain ⟨_, _, rfl⟩ := List.mem_map.1 hu; rfl
theorem srcStr (l : List UInt8) (w : World) : Src Tryd.prog 1 9 (.string ⟨l.toArray⟩) l.length (u8s l) w :=
  Src.ofString w strT ⟨l.toArray⟩
theorem bytes_own {w' : World} {B e n m : Nat} {v : Value} {a l : List UInt8} (h : w'.ownsRow B e 1 v (n + m) (u8s a ++ u8s l)) (hn : n = a.length) (hm : m = l.length) : w'.ownsRow B e 1 v (a ++ l).length (u8s (a ++ l)) := by
  subst hn hm; rw [List.length_append]; unfold u8s at *; rw [List.map_append]; exact h
set_option maxHeartbeats 400000 in
theorem wireBytes_any (l : List UInt8) (w : World) (hl : l.length ≤ 1099511627776) :
    Calls Tryd.prog 97 #[.string ⟨l.toArray⟩] w fun e w' => ∃ v, e = .returned v ∧ w'.ownsRow w.heap.size 5 1 v (Wire.bytes l).length (u8s (Wire.bytes l)) ∧ Below w.heap.size w w' := by
  go_enter Tryd.func97, Tryd.ntmps97
  go_wp2_with fail
  refine (wireInt_any l.length w (by omega)).mono ?_
  rintro e w1 ⟨v, rfl, hown, hb⟩
  have hle := Wire.int_length l.length
  go_wp2_with (at_builtin; refine app_src infoU8 hown (srcStr l w1) hb hb.size (by unfold maxLen; omega) (by omega) rfl _ _ rfl rfl rfl ?_; intro v2 w2 hown2 hb2)
  go_ret
  exact ⟨_, rfl, bytes_own hown2 rfl rfl, hb2⟩
end Go.Proofs.YtdbebdjnpckfdaaDoor
