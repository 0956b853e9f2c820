
/- Decoding an integer at the beginning of bytes (layer 1), on lists of bytes. No program in sight. -/
import Derived.Test.YthejnchhddggmaaDoorGa
set_option linter.unusedSimpArgs false
set_option linter.unusedVariables false
namespace Wire
def fl (b0 : UInt8) : UInt8 := if b0.toNat < 128 then 255 else 0
def kOf (b0 : UInt8) : Nat := (b0 ^^^ fl b0).toNat - 128
/-- The number that the first i bytes behind the head spell. -/
def valI (f : UInt8) (b : List UInt8) : Nat → Nat
  | 0 => 0
  | i + 1 => valI f b i * 256 + (b.getD (i + 1) 0 ^^^ f).toNat
theorem valI_succ (f : UInt8) (b : List UInt8) (i : Nat) : valI f b (i + 1) = valI f b i * 256 + (b.getD (i + 1) 0 ^^^ f).toNat := rfl
def neg (b0 : UInt8) (m : Nat) : Int := if b0.toNat < 128 then -1 - m else m
/-- The number, the bytes used, the error (2: form, 3: more). -/
def getI (b : List UInt8) : Int × Int × Int :=
  if b.length = 0 then (0, 0, 3)
  else if 8 < kOf (b.getD 0 0) then (0, 0, 2)
  else if b.length ≤ kOf (b.getD 0 0) then (0, 0, 3)
  else if 0 < kOf (b.getD 0 0) ∧ (b.getD 1 0 ^^^ fl (b.getD 0 0)).toNat = 0 then (0, 0, 2)
  else if 9223372036854775808 ≤ valI (fl (b.getD 0 0)) b (kOf (b.getD 0 0)) then (0, 0, 2)
  else (neg (b.getD 0 0) (valI (fl (b.getD 0 0)) b (kOf (b.getD 0 0))), (kOf (b.getD 0 0) : Nat) + 1, 0)
theorem xor255 (d : UInt8) : (d ^^^ 255).toNat = 255 - d.toNat := by
  have h : ∀ n : Fin 256, ((UInt8.ofNat n.val) ^^^ 255).toNat = 255 - n.val := by decide +kernel
  have h2 := h ⟨d.toNat, d.toNat_lt⟩
  simpa using h2
theorem xor0 (d : UInt8) : d ^^^ 0 = d := by simp
theorem kOf_neg {b0 : UInt8} (h : b0.toNat < 128) : fl b0 = 255 ∧ kOf b0 = 127 - b0.toNat := by
  have : fl b0 = 255 := by unfold fl; rw [if_pos h]
  refine ⟨this, ?_⟩
  unfold kOf; rw [this, xor255]; omega
theorem kOf_pos {b0 : UInt8} (h : ¬ b0.toNat < 128) : fl b0 = 0 ∧ kOf b0 = b0.toNat - 128 := by
  have : fl b0 = 0 := by unfold fl; rw [if_neg h]
  refine ⟨this, ?_⟩
  unfold kOf; rw [this, xor0]
theorem valI_lt (f : UInt8) (b : List UInt8) : ∀ i, valI f b i < 2 ^ (8 * i)
  | 0 => by simp [valI]
  | i + 1 => by
    have h := valI_lt f b i
    have h2 := (b.getD (i + 1) 0 ^^^ f).toNat_lt
    have e : 2 ^ (8 * (i + 1)) = 2 ^ (8 * i) * 256 := by rw [Nat.mul_add, Nat.pow_add]
    unfold valI; rw [e]; omega
theorem valI_div (f : UInt8) (b : List UInt8) : ∀ i j, j ≤ i → valI f b i / 2 ^ (8 * j) = valI f b (i - j)
  | i, 0, _ => by simp
  | 0, j + 1, h => absurd h (by omega)
  | i + 1, j + 1, h => by
    have h1 := valI_div f b i j (by omega)
    have h2 := (b.getD (i + 1) 0 ^^^ f).toNat_lt
    have e : 2 ^ (8 * (j + 1)) = 256 * 2 ^ (8 * j) := by rw [Nat.mul_add, Nat.pow_add, Nat.mul_comm]
    rw [e, ← Nat.div_div_eq_div_mul, show valI f b (i + 1) / 256 = valI f b i by rw [valI_succ]; omega, h1]
    congr 1; omega
theorem dig_val (f : UInt8) (b : List UInt8) (i j : Nat) (h : j < i) : dig (valI f b i) j = b.getD (i - j) 0 ^^^ f := by
  unfold dig
  rw [valI_div f b i j (by omega)]
  obtain ⟨k, e⟩ : ∃ k, i - j = k + 1 := ⟨i - j - 1, by omega⟩
  rw [e]
  apply UInt8.toNat_inj.1
  have h2 := (b.getD (k + 1) 0 ^^^ f).toNat_lt
  rw [UInt8.toNat_ofNat']
  unfold valI; omega
theorem xor_xor (a f : UInt8) : a ^^^ f ^^^ f = a := by
  rw [UInt8.xor_assoc]; simp
theorem digs_val (f : UInt8) (b : List UInt8) (k : Nat) (hk : k < b.length) : ∀ j, j ≤ k → digs f (valI f b k) j = (b.drop (k + 1 - j)).take j
  | 0, _ => by simp [digs]
  | j + 1, h => by
    have ih := digs_val f b k hk j (by omega)
    unfold digs
    rw [ih, dig_val f b k j (by omega), xor_xor]
    have e1 : k + 1 - (j + 1) = k - j := by omega
    have e2 : k + 1 - j = k - j + 1 := by omega
    rw [e1, e2, List.drop_eq_getElem_cons (show k - j < b.length by omega), List.take_succ_cons, List.getD_eq_getElem?_getD, List.getElem?_eq_getElem (show k - j < b.length by omega)]
    rfl
/-- The first digit tells how many there are. -/
theorem valI_low (f : UInt8) (b : List UInt8) (h : (b.getD 1 0 ^^^ f).toNat = 0) : ∀ i, valI f b (i + 1) < 2 ^ (8 * i)
  | 0 => by rw [valI_succ, h]; simp [valI]
  | i + 1 => by
    have ih := valI_low f b h i
    have h2 := (b.getD (i + 1 + 1) 0 ^^^ f).toNat_lt
    have e : 2 ^ (8 * (i + 1)) = 2 ^ (8 * i) * 256 := by rw [Nat.mul_add, Nat.pow_add]
    rw [valI, e]; omega
theorem valI_high (f : UInt8) (b : List UInt8) (h : (b.getD 1 0 ^^^ f).toNat ≠ 0) : ∀ i, 2 ^ (8 * i) ≤ valI f b (i + 1)
  | 0 => by
    have e : valI f b (0 + 1) = 0 * 256 + (b.getD 1 0 ^^^ f).toNat := rfl
    rw [e, Nat.mul_zero, Nat.pow_zero]; omega
  | i + 1 => by
    have ih := valI_high f b h i
    have e : 2 ^ (8 * (i + 1)) = 2 ^ (8 * i) * 256 := by rw [Nat.mul_add, Nat.pow_add]
    rw [valI, e]; omega
theorem nd_val (f : UInt8) (b : List UInt8) (k : Nat) (hk : k ≤ 8) (h : ¬ (0 < k ∧ (b.getD 1 0 ^^^ f).toNat = 0)) : nd (valI f b k) = k := by
  refine nd_of _ k hk (valI_lt f b k) ?_
  rcases Nat.eq_zero_or_pos k with h0 | h0
  · exact .inl h0
  · obtain ⟨j, rfl⟩ : ∃ j, k = j + 1 := ⟨k - 1, by omega⟩
    exact .inr (valI_high f b (fun e => h ⟨h0, e⟩) j)
theorem mag_neg (b0 : UInt8) (m : Nat) : mag (neg b0 m) = m ∧ flip (neg b0 m) = fl b0 := by
  unfold neg
  by_cases h : b0.toNat < 128
  · rw [if_pos h]
    constructor
    · unfold mag; rw [if_pos (by omega)]; omega
    · unfold flip fl; rw [if_pos (by omega), if_pos h]
  · rw [if_neg h]
    constructor
    · unfold mag; rw [if_neg (by omega)]; omega
    · unfold flip fl; rw [if_neg (by omega), if_neg h]
theorem head_val {b0 : UInt8} (h : kOf b0 ≤ 8) : UInt8.ofNat (128 + kOf b0) ^^^ fl b0 = b0 := by
  have h2 : ∀ n : Fin 256, kOf (UInt8.ofNat n.val) ≤ 8 → UInt8.ofNat (128 + kOf (UInt8.ofNat n.val)) ^^^ fl (UInt8.ofNat n.val) = UInt8.ofNat n.val := by decide +kernel
  have h3 := h2 ⟨b0.toNat, b0.toNat_lt⟩
  simp only [UInt8.ofNat_toNat] at h3
  exact h3 h
/-- The encoding of what was decoded is what was decoded just if the number has as many digits as the head says. -/
theorem int_val (b : List UInt8) (hb : kOf (b.getD 0 0) < b.length) (hk : kOf (b.getD 0 0) ≤ 8) : int (neg (b.getD 0 0) (valI (fl (b.getD 0 0)) b (kOf (b.getD 0 0)))) = b.take (kOf (b.getD 0 0) + 1) ↔ ¬ (0 < kOf (b.getD 0 0) ∧ (b.getD 1 0 ^^^ fl (b.getD 0 0)).toNat = 0) := by
  have h0 : b.getD 0 0 = b[0]'(by omega) := by rw [List.getD_eq_getElem?_getD, List.getElem?_eq_getElem (by omega)]; rfl
  have hh := head_val hk
  obtain ⟨h1, h2⟩ := mag_neg (b.getD 0 0) (valI (fl (b.getD 0 0)) b (kOf (b.getD 0 0)))
  unfold int
  rw [h1, h2]
  constructor
  · rintro e ⟨q1, q2⟩
    have hl := congrArg List.length e
    rw [List.length_cons, digs_length, List.length_take] at hl
    have hnd : nd (valI (fl (b.getD 0 0)) b (kOf (b.getD 0 0))) = kOf (b.getD 0 0) := by omega
    obtain ⟨j, ej⟩ : ∃ j, kOf (b.getD 0 0) = j + 1 := ⟨kOf (b.getD 0 0) - 1, by omega⟩
    have hlow := valI_low (fl (b.getD 0 0)) b q2 j
    rw [ej] at hnd hk
    have : nd (valI (fl (b.getD 0 0)) b (j + 1)) ≤ j := by
      generalize valI (fl (b.getD 0 0)) b (j + 1) = v at *
      have hj : j = 0 ∨ j = 1 ∨ j = 2 ∨ j = 3 ∨ j = 4 ∨ j = 5 ∨ j = 6 ∨ j = 7 := by omega
      unfold nd
      rcases hj with rfl | rfl | rfl | rfl | rfl | rfl | rfl | rfl <;> simp at hlow <;> (repeat' split) <;> omega
    omega
  · intro hn
    rw [nd_val _ b _ hk hn, hh, digs_val _ b _ hb _ (Nat.le_refl _)]
    have e1 : kOf (b.getD 0 0) + 1 - kOf (b.getD 0 0) = 1 := by omega
    have e2 : b = b.getD 0 0 :: b.drop 1 := by
      rw [h0]; have := List.drop_eq_getElem_cons (show 0 < b.length by omega); rw [List.drop_zero] at this; exact this
    have e3 : ∀ k, b.take (k + 1) = b.getD 0 0 :: (b.drop 1).take k := fun k => (congrArg (List.take (k + 1)) e2).trans List.take_succ_cons
    rw [e1, e3]
/-- A prefix that is great already. -/
theorem valI_mono (f : UInt8) (b : List UInt8) {i j : Nat} (h : i ≤ j) : valI f b i * 2 ^ (8 * (j - i)) ≤ valI f b j := by
  induction j with
  | zero => obtain rfl : i = 0 := by omega
            simp [valI]
  | succ j ih =>
    rcases Nat.lt_or_ge j i with h1 | h1
    · obtain rfl : i = j + 1 := by omega
      simp
    · have := ih h1
      have e : 2 ^ (8 * (j + 1 - i)) = 2 ^ (8 * (j - i)) * 256 := by rw [show j + 1 - i = (j - i) + 1 by omega, Nat.mul_add, Nat.pow_add]
      rw [e, ← Nat.mul_assoc]
      rw [valI_succ]; omega
theorem valI_over (f : UInt8) (b : List UInt8) {i k : Nat} (h : i < k) (hb : 36028797018963967 < valI f b i) : 9223372036854775808 ≤ valI f b k := by
  have h1 := valI_mono f b (show i + 1 ≤ k by omega)
  have h2 : valI f b i * 256 ≤ valI f b (i + 1) := by rw [valI_succ]; omega
  have h3 : valI f b (i + 1) ≤ valI f b (i + 1) * 2 ^ (8 * (k - (i + 1))) := Nat.le_mul_of_pos_right _ (Nat.pow_pos (by decide))
  omega
theorem valI_under (f : UInt8) (b : List UInt8) {i : Nat} (hb : ¬ 36028797018963967 < valI f b i) : valI f b (i + 1) < 9223372036854775808 := by
  have h2 := (b.getD (i + 1) 0 ^^^ f).toNat_lt
  unfold valI; omega
end Wire
