
/- Weights of releases: the plain law. -/
import Derived.Test.YtfiecjpoabnfnaaQa
import Derived.Test.YtfiecjpoabnfnaaDa
set_option linter.unusedSimpArgs false
set_option linter.unusedVariables false
namespace Go.Rl
open Go.V Go.Lx
/-- A power of 2. -/
def pw (n : Int) : Int := 2 ^ n.toNat
theorem pw_pos (n : Int) : 1 ≤ pw n := by
  unfold pw
  have : (0 : Int) < 2 ^ n.toNat := Int.pow_pos (by decide)
  omega
theorem pw_mono {a b : Int} (h : a ≤ b) : pw a ≤ pw b := by
  unfold pw
  have h1 : a.toNat ≤ b.toNat := by omega
  have h2 : (2 : Nat) ^ a.toNat ≤ 2 ^ b.toNat := Nat.pow_le_pow_right (by decide) h1
  exact_mod_cast h2
theorem pw_add {a b : Int} (ha : 0 ≤ a) (hb : 0 ≤ b) : pw (a + b) = pw a * pw b := by
  unfold pw
  rw [Int.toNat_add ha hb, Int.pow_add]
theorem pw_38 {n : Int} (h : n ≤ 38) : pw n ≤ 274877906944 := Int.le_trans (pw_mono h) (by decide)
/-- How far a number is from the true one. -/
def apart (c x : Int) : Int := max (x - c) (c - x)
def wt (c m k x : Int) : Int := if x = 0 ∨ x = m then pw (k * (m - apart c x)) * pw k else pw (k * (m - apart c x)) * (pw k - 1)
def wts (c m k : Int) : List Int := (List.range (m + 1).toNat).map fun x : Nat => wt c m k x
structure Fits (m k : Int) : Prop where
  fm : 1 ≤ m ∧ m ≤ 37
  fk : 1 ≤ k ∧ k ≤ 12
  fs : k * (m + 1) ≤ 38
instance (m k : Int) : Decidable (Fits m k) := decidable_of_iff ((1 ≤ m ∧ m ≤ 37) ∧ (1 ≤ k ∧ k ≤ 12) ∧ k * (m + 1) ≤ 38) ⟨fun h => ⟨h.1, h.2.1, h.2.2⟩, fun h => ⟨h.fm, h.fk, h.fs⟩⟩
theorem apart_le {c m x : Int} (hc : 0 ≤ c ∧ c ≤ m) (hx : 0 ≤ x ∧ x ≤ m) : 0 ≤ apart c x ∧ apart c x ≤ m := by
  unfold apart
  omega
theorem exp_le {m k : Int} (h : Fits m k) {d : Int} (hd : 0 ≤ d ∧ d ≤ m) : 0 ≤ k * (m - d) ∧ k * (m - d) + k ≤ 38 := by
  have h1 := h.fk
  have h2 : k * (m - d) ≤ k * m := Int.mul_le_mul_of_nonneg_left (by omega) (by omega)
  have h3 : k * (m + 1) = k * m + k := by rw [Int.mul_add, Int.mul_one]
  have h4 := h.fs
  exact ⟨Int.mul_nonneg (by omega) (by omega), by omega⟩
theorem wts_len (c m k : Int) : (wts c m k).length = (m + 1).toNat := by unfold wts; rw [List.length_map, List.length_range]
theorem wts_get {c m k : Int} {x : Nat} (h : (x : Int) ≤ m) : (wts c m k).getD x 0 = wt c m k x := by
  unfold wts
  rw [List.getD_eq_getElem?_getD, List.getElem?_map, List.getElem?_range (by omega)]; rfl
def most (k : Int) : Int := 38 / k - 1
theorem most_fits {k : Int} (h : 1 ≤ k ∧ k ≤ 12) : Fits (most k) k ∧ 2 ≤ most k := by
  unfold most
  obtain ⟨h1, h2⟩ := h
  have h3 : k = 1 ∨ k = 2 ∨ k = 3 ∨ k = 4 ∨ k = 5 ∨ k = 6 ∨ k = 7 ∨ k = 8 ∨ k = 9 ∨ k = 10 ∨ k = 11 ∨ k = 12 := by omega
  rcases h3 with rfl | rfl | rfl | rfl | rfl | rfl | rfl | rfl | rfl | rfl | rfl | rfl <;> exact ⟨⟨by decide, by decide, by decide⟩, by decide⟩
/-- How many of the first rows have a value in a field. -/
def cntTo (R : List Row) (f : Nat) (v : Int) : Nat → Nat
  | 0 => 0
  | i + 1 => if (R.getD i rowZ).V.getD f 0 = v then cntTo R f v i + 1 else cntTo R f v i
def cnt (R : List Row) (f : Nat) (v : Int) : Nat := cntTo R f v R.length
theorem cntTo_le (R : List Row) (f : Nat) (v : Int) : ∀ i, cntTo R f v i ≤ i
  | 0 => Nat.le_refl _
  | i + 1 => by
    have := cntTo_le R f v i
    rw [cntTo]; split <;> omega
def mGet (l : List (Int × Int)) (v : Int) : Int := (mFind l v).getD 0
/-- How many rows have a value, as a map. -/
def manyTo (R : List Row) (f : Nat) : Nat → List (Int × Int)
  | 0 => []
  | i + 1 => mSet (manyTo R f i) ((R.getD i rowZ).V.getD f 0) (mGet (manyTo R f i) ((R.getD i rowZ).V.getD f 0) + 1)
theorem many_get (R : List Row) (f : Nat) (v : Int) : ∀ i, mGet (manyTo R f i) v = cntTo R f v i
  | 0 => rfl
  | i + 1 => by
    rw [manyTo, cntTo]
    unfold mGet
    rw [Go.Dk.mFind_mSet]
    split
    · rename_i h
      show mGet (manyTo R f i) _ + 1 = _
      rw [h, many_get R f v i]; simp
    · exact many_get R f v i
def checkE (t : Tab) (f k : Int) : Int := if okE t ≠ 0 then okE t else if f < 0 ∨ t.S.length ≤ f then 6 else if k < 1 ∨ 12 < k then 5 else 0
def badL (k : Int) (l : List Int) : Bool := l.any fun n => decide (n < 0 ∨ most k < n)
def weightE (t : Tab) (f k : Int) (l : List Int) : Int :=
  if checkE t f k ≠ 0 then checkE t f k else if (l.length : Int) ≠ t.S.getD f.toNat 0 ∨ badL k l = true then 5 else 0
def wOf (R : List Row) (f k : Int) (l : List Int) (v : Nat) : Int := wt (min (most k) (cnt R f.toNat v)) (most k) k (l.getD v 0)
def weightL (t : Tab) (f k : Int) (l : List Int) : List Int := if weightE t f k l = 0 then (List.range l.length).map (wOf t.R f k l) else []
end Go.Rl
