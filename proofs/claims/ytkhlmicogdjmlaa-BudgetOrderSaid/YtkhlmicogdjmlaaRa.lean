
/- Fractions: the plain law. -/
import Derived.Test.YtkhlmicogdjmlaaFp
set_option linter.unusedSimpArgs false
set_option linter.unusedVariables false
namespace Go.Rt
structure Rq where
  P : Int
  Q : Int
  deriving DecidableEq
abbrev rz : Rq := ⟨0, 0⟩
def den (r : Rq) : Int := if r.Q = 0 then 1 else r.Q
def absI (n : Int) : Int := if n < 0 then -n else n
def gI (x y : Int) : Int := ((Nat.gcd x.toNat y.toNat : Nat) : Int)
def valid (r : Rq) : Bool := decide (r = rz) || decide (1 ≤ r.Q ∧ r.Q ≤ 2147483648 ∧ -2147483648 ≤ r.P ∧ r.P ≤ 2147483648 ∧ gI (absI r.P) (absI r.Q) = 1)
def mkErr (p q : Int) : Int := if q = 0 then 1 else if 2147483648 < absI p / gI (absI p) (absI q) ∨ 2147483648 < absI q / gI (absI p) (absI q) then 5 else 0
def mkV (p q : Int) : Rq := if mkErr p q = 0 then ⟨if (decide (p < 0) != decide (q < 0)) = true then -(absI p / gI (absI p) (absI q)) else absI p / gI (absI p) (absI q), absI q / gI (absI p) (absI q)⟩ else rz
def addP (a b : Rq) : Int := a.P * (den b / gI (den a) (den b)) + b.P * (den a / gI (den a) (den b))
def addQ (a b : Rq) : Int := den a / gI (den a) (den b) * den b
def both (a b : Rq) : Bool := valid a && valid b
def addE (a b : Rq) : Int := if both a b = true then mkErr (addP a b) (addQ a b) else 1
def addV (a b : Rq) : Rq := if both a b = true then mkV (addP a b) (addQ a b) else rz
def mulE (a b : Rq) : Int := if both a b = true then mkErr (a.P * b.P) (den a * den b) else 1
def mulV (a b : Rq) : Rq := if both a b = true then mkV (a.P * b.P) (den a * den b) else rz
def cmpR (a b : Rq) : Int := if both a b = true then (if a.P * den b = b.P * den a then 0 else if a.P * den b < b.P * den a then -1 else 1) else 0
structure R64 (r : Rq) : Prop where
  p : -9223372036854775808 ≤ r.P ∧ r.P ≤ 9223372036854775807
  q : -9223372036854775808 ≤ r.Q ∧ r.Q ≤ 9223372036854775807
theorem absI_nn (n : Int) : 0 ≤ absI n := by unfold absI; split <;> omega
theorem gI_pos {x y : Int} (h : 0 < x ∨ 0 < y) : 1 ≤ gI x y := by
  unfold gI
  have : 0 < Nat.gcd x.toNat y.toNat := by
    rcases h with h | h
    · exact Nat.gcd_pos_of_pos_left _ (by omega)
    · exact Nat.gcd_pos_of_pos_right _ (by omega)
  omega
theorem gI_le {x y : Int} (h : 0 < y) : gI x y ≤ y := by
  unfold gI
  have := Nat.le_of_dvd (by omega) (Nat.gcd_dvd_right x.toNat y.toNat)
  omega
theorem gI_nn (x y : Int) : 0 ≤ gI x y := by unfold gI; omega
theorem gI_zero (x : Int) (h : 0 ≤ x) : gI x 0 = x := by unfold gI; simp; omega
theorem gI_step {x y : Int} (hx : 0 ≤ x) (hy : 0 < y) : gI x y = gI y (x % y) := by
  unfold gI
  congr 1
  have e : (x % y).toNat = x.toNat % y.toNat := Int.toNat_emod hx (by omega)
  rw [e, Nat.gcd_comm, Nat.gcd_rec, Nat.gcd_comm]
theorem div_le {a g : Int} (ha : 0 ≤ a) (hg : 1 ≤ g) : 0 ≤ a / g ∧ a / g ≤ a := by
  refine ⟨Int.ediv_nonneg ha (by omega), ?_⟩
  exact Int.ediv_le_self _ ha
/-- What a valid fraction is. -/
theorem valid_iff {r : Rq} : valid r = true ↔ r = rz ∨ (1 ≤ r.Q ∧ r.Q ≤ 2147483648 ∧ -2147483648 ≤ r.P ∧ r.P ≤ 2147483648 ∧ gI (absI r.P) (absI r.Q) = 1) := by
  unfold valid; rw [Bool.or_eq_true, decide_eq_true_eq, decide_eq_true_eq]
theorem valid_b {r : Rq} (h : valid r = true) : (1 ≤ den r ∧ den r ≤ 2147483648) ∧ (-2147483648 ≤ r.P ∧ r.P ≤ 2147483648) := by
  rcases valid_iff.1 h with rfl | ⟨h1, h2, h3, h4, _⟩
  · exact ⟨by decide, by decide⟩
  · unfold den; rw [if_neg (by omega)]; omega
theorem gI_dvd {x y : Int} (hx : 0 ≤ x) (hy : 0 ≤ y) : (∃ k, x = gI x y * k ∧ 0 ≤ k) ∧ ∃ k, y = gI x y * k ∧ 0 ≤ k := by
  obtain ⟨a, rfl⟩ := Int.eq_ofNat_of_zero_le hx
  obtain ⟨b, rfl⟩ := Int.eq_ofNat_of_zero_le hy
  unfold gI
  simp only [Int.toNat_natCast]
  obtain ⟨c, hc⟩ := Nat.gcd_dvd_left a b
  obtain ⟨d, hd⟩ := Nat.gcd_dvd_right a b
  exact ⟨⟨(c : Int), by exact_mod_cast hc, by omega⟩, ⟨(d : Int), by exact_mod_cast hd, by omega⟩⟩
/-- In a sum of valid fractions nothing overflows. -/
theorem add_fit {a b : Rq} (ha : valid a = true) (hb : valid b = true) :
    (0 ≤ den b / gI (den a) (den b) ∧ den b / gI (den a) (den b) ≤ 2147483648) ∧ (0 ≤ den a / gI (den a) (den b) ∧ den a / gI (den a) (den b) ≤ 2147483648) ∧
    (den b / gI (den a) (den b) < 2147483648 ∨ den a / gI (den a) (den b) < 2147483648) := by
  obtain ⟨⟨a1, a2⟩, _⟩ := valid_b ha
  obtain ⟨⟨b1, b2⟩, _⟩ := valid_b hb
  have hg := gI_pos (x := den a) (y := den b) (.inl (by omega))
  have h1 := div_le (a := den a) (g := gI (den a) (den b)) (by omega) hg
  have h2 := div_le (a := den b) (g := gI (den a) (den b)) (by omega) hg
  refine ⟨⟨h2.1, by omega⟩, ⟨h1.1, by omega⟩, ?_⟩
  refine Classical.byContradiction fun hn => ?_
  have e1 : den a / gI (den a) (den b) = 2147483648 := by omega
  have e2 : den b / gI (den a) (den b) = 2147483648 := by omega
  have f1 : den a = 2147483648 := by omega
  have f2 : den b = 2147483648 := by omega
  rw [f1, f2] at e1
  have : gI 2147483648 2147483648 = 2147483648 := by decide
  rw [this] at e1
  exact absurd e1 (by decide)
theorem mul_bd {x y : Int} (hx : -2147483648 ≤ x ∧ x ≤ 2147483648) (hy : 0 ≤ y ∧ y ≤ 2147483648) : -2147483648 * y ≤ x * y ∧ x * y ≤ 2147483648 * y :=
  ⟨Int.mul_le_mul_of_nonneg_right hx.1 hy.1, Int.mul_le_mul_of_nonneg_right hx.2 hy.1⟩
theorem add_bd {a b : Rq} (ha : valid a = true) (hb : valid b = true) :
    (-4611686018427387904 ≤ a.P * (den b / gI (den a) (den b)) ∧ a.P * (den b / gI (den a) (den b)) ≤ 4611686018427387904) ∧ (-4611686018427387904 ≤ b.P * (den a / gI (den a) (den b)) ∧ b.P * (den a / gI (den a) (den b)) ≤ 4611686018427387904) ∧
    (-9223372036854775807 ≤ addP a b ∧ addP a b ≤ 9223372036854775807) ∧ (0 ≤ addQ a b ∧ addQ a b ≤ 4611686018427387904) := by
  obtain ⟨h1, h2, h3⟩ := add_fit ha hb
  obtain ⟨⟨_, _⟩, ap⟩ := valid_b ha
  obtain ⟨⟨b1, b2⟩, bp⟩ := valid_b hb
  have m1 := mul_bd ap h1
  have m2 := mul_bd bp h2
  have m3 := mul_bd (x := den b) (y := den a / gI (den a) (den b)) ⟨by omega, b2⟩ h2
  have m4 : 0 ≤ den b * (den a / gI (den a) (den b)) := Int.mul_nonneg (by omega) h2.1
  unfold addP addQ
  rw [Int.mul_comm (den a / gI (den a) (den b)) (den b)]
  refine ⟨⟨by omega, by omega⟩, ⟨by omega, by omega⟩, ⟨by omega, by omega⟩, ⟨m4, by omega⟩⟩
theorem mul_bd2 {x y : Int} (hx : -2147483648 ≤ x ∧ x ≤ 2147483648) (hy : -2147483648 ≤ y ∧ y ≤ 2147483648) : -4611686018427387904 ≤ x * y ∧ x * y ≤ 4611686018427387904 := by
  rcases Int.le_total 0 y with h | h
  · have := mul_bd hx ⟨h, hy.2⟩; omega
  · have := mul_bd (y := -y) hx ⟨by omega, by omega⟩
    have e : x * -y = -(x * y) := Int.mul_neg x y
    rw [e] at this
    omega
/-- Fractions that Make gives. -/
theorem mkV_valid {p q : Int} (hq : 0 < q) (h : mkErr p q = 0) : valid (mkV p q) = true := by
  have hq0 : ¬ q = 0 := by omega
  have hv : mkV p q = ⟨if (decide (p < 0) != decide (q < 0)) = true then -(absI p / gI (absI p) (absI q)) else absI p / gI (absI p) (absI q), absI q / gI (absI p) (absI q)⟩ := if_pos h
  rw [hv]
  unfold mkErr at h
  rw [if_neg hq0] at h
  have hpn := absI_nn p
  have haq : absI q = q := by unfold absI; rw [if_neg (by omega)]
  rw [haq] at h ⊢
  have hg := gI_pos (x := absI p) (y := q) (.inr hq)
  obtain ⟨⟨k, hk, hk0⟩, m, hm, hm0⟩ := gI_dvd hpn (by omega : 0 ≤ q)
  have hco : gI (absI p / gI (absI p) q) (q / gI (absI p) q) = 1 := by
    have hd : ∀ {x y : Int}, 0 ≤ x → (x / y).toNat = x.toNat / y.toNat ∨ y < 0 := fun {x y} hx => by
      by_cases h : y < 0
      · exact .inr h
      · left
        obtain ⟨a, rfl⟩ := Int.eq_ofNat_of_zero_le hx
        obtain ⟨b, rfl⟩ := Int.eq_ofNat_of_zero_le (by omega : 0 ≤ y)
        rw [show ((a : Int) / (b : Int)) = ((a / b : Nat) : Int) from rfl]
        rfl
    have h1 := (hd (x := absI p) (y := gI (absI p) q) hpn).resolve_right (by omega)
    have h2 := (hd (x := q) (y := gI (absI p) q) (by omega)).resolve_right (by omega)
    have h3 : (gI (absI p) q).toNat = Nat.gcd (absI p).toNat q.toNat := by unfold gI; rfl
    have h4 : 0 < Nat.gcd (absI p).toNat q.toNat := by omega
    show ((Nat.gcd (absI p / gI (absI p) q).toNat (q / gI (absI p) q).toNat : Nat) : Int) = 1
    rw [h1, h2, h3, Nat.coprime_div_gcd_div_gcd h4]
    rfl
  generalize hA : absI p / gI (absI p) q = A at *
  generalize hB : q / gI (absI p) q = B at *
  have hA0 : 0 ≤ A := by rw [← hA]; exact Int.ediv_nonneg hpn (by omega)
  have hB0 : 1 ≤ B := by
    have e : B = m := by rw [← hB]; exact Int.ediv_eq_of_eq_mul_right (by omega) hm
    rw [e]
    by_cases h1 : m < 1
    · have : m = 0 := by omega
      rw [this] at hm; omega
    · omega
  by_cases hbig : 2147483648 < A ∨ 2147483648 < B
  · rw [if_pos hbig] at h; cases h
  have n1 : -2147483648 ≤ -A := by omega
  have n2 : -A ≤ 2147483648 := by omega
  refine valid_iff.2 (.inr ⟨hB0, (by omega : B ≤ 2147483648), ?_, ?_, ?_⟩)
  · show -2147483648 ≤ (if _ then -A else A)
    split
    · exact n1
    · omega
  · show (if _ then -A else A) ≤ 2147483648
    split
    · exact n2
    · omega
  · show gI (absI (if _ then -A else A)) (absI B) = 1
    have e1 : absI (if (decide (p < 0) != decide (q < 0)) = true then -A else A) = A := by
      unfold absI
      split <;> split <;> omega
    have e2 : absI B = B := by unfold absI; rw [if_neg (by omega)]
    rw [e1, e2, hco]
end Go.Rt
