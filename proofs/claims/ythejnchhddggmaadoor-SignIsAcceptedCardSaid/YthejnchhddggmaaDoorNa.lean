
/- Decoding an integer at the beginning of bytes (layer 1), on lists of bytes. No program in sight. -/
import Derived.Test.YthejnchhddggmaaDoorGa
set_option linter.unusedSimpArgs false
set_option linter.unusedVariables false
namespace Wire
def fl (b0 : UInt8) : UInt8 := if b0.toNat < 128 then 255 else 0
def kOf (b0 : UInt8) : Nat := (b0 ^^^ fl b0).toNat - 128
/-- The number that the first i bytes behind the head spell. -/
def valI (f : UInt8) (b : List UInt8) : Nat → Nat
  | 0 => 0
  | i + 1 => valI f b i * 256 + (b.getD (i + 1) 0 ^^^ f).toNat
theorem valI_succ (f : UInt8) (b : List UInt8) (i : Nat) : valI f b (i + 1) = valI f b i * 256 + (b.getD (i + 1) 0 ^^^ f).toNat := rfl
def neg (b0 : UInt8) (m : Nat) : Int := if b0.toNat < 128 then -1 - m else m
/-- The number, the bytes used, the error (2: form, 3: more). -/
def getI (b : List UInt8) : Int × Int × Int :=
  if b.length = 0 then (0, 0, 3)
  else if 8 < kOf (b.getD 0 0) then (0, 0, 2)
  else if b.length ≤ kOf (b.getD 0 0) then (0, 0, 3)
  else if 0 < kOf (b.getD 0 0) ∧ (b.getD 1 0 ^^^ fl (b.getD 0 0)).toNat = 0 then (0, 0, 2)
  else if 9223372036854775808 ≤ valI (fl (b.getD 0 0)) b (kOf (b.getD 0 0)) then (0, 0, 2)
  else (neg (b.getD 0 0) (valI (fl (b.getD 0 0)) b (kOf (b.getD 0 0))), (kOf (b.getD 0 0) : Nat) + 1, 0)
theorem xor255 (d : UInt8) : (d ^^^ 255).toNat = 255 - d.toNat := by
  have h : ∀ n : Fin 256, ((UInt8.ofNat n.val) ^^^ 255).toNat = 255 - n.val := by decide +kernel
  have h2 := h ⟨d.toNat, d.toNat_lt⟩
  simpa using h2
theorem xor0 (d : UInt8) : d ^^^ 0 = d := by simp
theorem kOf_neg {b0 : UInt8} (h : b0.toNat < 128) : fl b0 = 255 ∧ kOf b0 = 127 - b0.toNat := by
  have : fl b0 = 255 := by unfold fl; rw [if_pos h]
  refine ⟨this, ?_⟩
  unfold kOf; rw [this, xor255]; omega
theorem kOf_pos {b0 : UInt8} (h : ¬ b0.toNat < 128) : fl b0 = 0 ∧ kOf b0 = b0.toNat - 128 := by
  have : fl b0 = 0 := by unfold fl; rw [if_neg h]
  refine ⟨this, ?_⟩
  unfold kOf; rw [this, xor0]
theorem valI_lt (f : UInt8) (b : List UInt8) : ∀ i, valI f b i < 2 ^ (8 * i)
  | 0 => by simp [valI]
  | i + 1 => by
    have h := valI_lt f b i
    have h2 := (b.getD (i + 1) 0 ^^^ f).toNat_lt
    have e : 2 ^ (8 * (i + 1)) = 2 ^ (8 * i) * 256 := by rw [Nat.mul_add, Nat.pow_add]
    unfold valI; rw [e]; omega
end Wire
