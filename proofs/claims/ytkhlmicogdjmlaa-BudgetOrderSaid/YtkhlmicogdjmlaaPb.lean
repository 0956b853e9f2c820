
/- Fractions whose numerators and denominators are small, by their values; plain. -/
import Derived.Test.YtkhlmicogdjmlaaRd
set_option linter.unusedSimpArgs false
set_option linter.unusedVariables false
namespace Go.Rt
/-- r is a valid fraction, and K r is the whole number v. -/
structure Vk (K : Int) (r : Rq) (v : Int) : Prop where
  c : valid r = true
  n : 0 ≤ v
  e : K * r.P = den r * v
theorem den_pos {r : Rq} (h : valid r = true) : 0 < den r := by have := (valid_b h).1; omega
theorem Vk.p {K : Int} {r : Rq} {v : Int} (hK : 0 < K) (h : Vk K r v) : 0 ≤ r.P := by
  have h1 := Int.mul_nonneg (Int.le_of_lt (den_pos h.c)) h.n
  rw [← h.e] at h1
  by_cases hp : r.P < 0
  · have : K * r.P < 0 := Int.mul_neg_of_pos_of_neg hK hp
    omega
  · omega
theorem Vk.zero (K : Int) : Vk K rz 0 := ⟨by decide, by decide, by show K * 0 = den rz * 0; rw [Int.mul_zero, Int.mul_zero]⟩
theorem Vk.scale {K m : Int} {r : Rq} {v : Int} (hm : 0 ≤ m) (h : Vk K r v) : Vk (m * K) r (m * v) :=
  ⟨h.c, Int.mul_nonneg hm h.n, by rw [Int.mul_assoc, h.e, Int.mul_left_comm]⟩
/-- Make of p and q, where K p / q is the whole number v. -/
theorem mk_val {K p q v : Int} (hK : 0 < K ∧ K ≤ 1000) (hp : 0 ≤ p) (hq : 0 < q) (hv : 0 ≤ v ∧ v ≤ 1000000) (h : K * p = q * v) : mkErr p q = 0 ∧ Vk K (mkV p q) v ∧ 1 ≤ (mkV p q).Q := by
  have hap : absI p = p := if_neg (by omega)
  have haq : absI q = q := if_neg (by omega)
  obtain ⟨P, rfl⟩ := Int.eq_ofNat_of_zero_le hp
  obtain ⟨Q, rfl⟩ := Int.eq_ofNat_of_zero_le (Int.le_of_lt hq)
  obtain ⟨k, rfl⟩ := Int.eq_ofNat_of_zero_le (Int.le_of_lt hK.1)
  obtain ⟨w, rfl⟩ := Int.eq_ofNat_of_zero_le hv.1
  have hn : k * P = Q * w := by exact_mod_cast h
  have hQ : 0 < Q := by omega
  have hg : 0 < Nat.gcd P Q := Nat.gcd_pos_of_pos_right _ hQ
  obtain ⟨a, ha⟩ := Nat.gcd_dvd_left P Q
  obtain ⟨b, hb⟩ := Nat.gcd_dvd_right P Q
  have ea : P / Nat.gcd P Q = a := Nat.div_eq_of_eq_mul_right hg ha
  have eb : Q / Nat.gcd P Q = b := Nat.div_eq_of_eq_mul_right hg hb
  have hco : Nat.Coprime a b := by rw [← ea, ← eb]; exact Nat.coprime_div_gcd_div_gcd hg
  have hb0 : 0 < b := by
    rcases Nat.eq_zero_or_pos b with h0 | h0
    · rw [h0, Nat.mul_zero] at hb; omega
    · exact h0
  have h2 : k * a = b * w := by
    apply Nat.eq_of_mul_eq_mul_left hg
    calc Nat.gcd P Q * (k * a) = k * (Nat.gcd P Q * a) := Nat.mul_left_comm _ _ _
      _ = k * P := by rw [← ha]
      _ = Q * w := hn
      _ = Nat.gcd P Q * b * w := by rw [← hb]
      _ = Nat.gcd P Q * (b * w) := Nat.mul_assoc _ _ _
  have hbk : b ∣ k := hco.symm.dvd_of_dvd_mul_right ⟨w, h2⟩
  have hbl : b ≤ k := Nat.le_of_dvd (by omega) hbk
  have hal : a ≤ w ∨ a = 0 := by
    left
    obtain ⟨m, hm⟩ := hbk
    rw [hm, Nat.mul_assoc] at h2
    have := Nat.eq_of_mul_eq_mul_left hb0 h2
    have hm0 : 0 < m := by
      rcases Nat.eq_zero_or_pos m with h0 | h0
      · rw [h0, Nat.mul_zero] at hm; omega
      · exact h0
    calc a = 1 * a := (Nat.one_mul a).symm
      _ ≤ m * a := Nat.mul_le_mul_right a hm0
      _ = w := this
  have hG : gI (P : Int) (Q : Int) = (Nat.gcd P Q : Nat) := rfl
  have ea' : (P : Int) / gI P Q = a := by rw [hG, ← ea]; rfl
  have eb' : (Q : Int) / gI P Q = b := by rw [hG, ← eb]; rfl
  have he : mkErr P Q = 0 := by
    unfold mkErr
    rw [if_neg (by omega), hap, haq, ea', eb', if_neg (by omega)]
  have hval : mkV P Q = ⟨a, b⟩ := by
    unfold mkV
    rw [if_pos he, hap, haq, ea', eb', if_neg (by simp; omega)]
  have hc := mkV_valid hq he
  refine ⟨he, ⟨hc, hv.1, ?_⟩, ?_⟩
  · rw [hval]
    show (k : Int) * a = (if (b : Int) = 0 then 1 else (b : Int)) * w
    rw [if_neg (by omega)]
    exact_mod_cast h2
  · rw [hval]; show (1 : Int) ≤ b; omega
theorem both_of {a b : Rq} (ha : valid a = true) (hb : valid b = true) : both a b = true := by unfold both; rw [ha, hb]; rfl
theorem div_gI {x y : Int} (hx : 0 < x) (hy : 0 < y) : x * (y / gI x y) = x / gI x y * y := by
  obtain ⟨⟨a, ha, _⟩, b, hb, _⟩ := gI_dvd (Int.le_of_lt hx) (Int.le_of_lt hy)
  have hg := gI_pos (x := x) (y := y) (.inl hx)
  have ea : x / gI x y = a := Int.ediv_eq_of_eq_mul_right (by omega) ha
  have eb : y / gI x y = b := Int.ediv_eq_of_eq_mul_right (by omega) hb
  rw [ea, eb]
  generalize gI x y = g at *
  rw [ha, hb, Int.mul_comm g a, Int.mul_assoc]
theorem add_val {K : Int} {a b : Rq} {x y : Int} (hK : 0 < K ∧ K ≤ 1000) (ha : Vk K a x) (hb : Vk K b y) (h : x + y ≤ 1000000) : addE a b = 0 ∧ Vk K (addV a b) (x + y) ∧ 1 ≤ (addV a b).Q := by
  have hbo := both_of ha.c hb.c
  have hE : addE a b = mkErr (addP a b) (addQ a b) := if_pos hbo
  have hV : addV a b = mkV (addP a b) (addQ a b) := if_pos hbo
  rw [hE, hV]
  have da := den_pos ha.c
  have db := den_pos hb.c
  have pa := ha.p hK.1
  have pb := hb.p hK.1
  have hg := gI_pos (x := den a) (y := den b) (.inl da)
  have hd := div_gI da db
  have q1 : 0 < den a / gI (den a) (den b) := by
    have := Int.mul_pos da db
    obtain ⟨⟨u, hu, hu0⟩, _⟩ := gI_dvd (Int.le_of_lt da) (Int.le_of_lt db)
    have e : den a / gI (den a) (den b) = u := Int.ediv_eq_of_eq_mul_right (by omega) hu
    rw [e]
    by_cases h0 : u = 0
    · rw [h0, Int.mul_zero] at hu; omega
    · omega
  have q2 : 0 ≤ den b / gI (den a) (den b) := Int.ediv_nonneg (Int.le_of_lt db) (by omega)
  have ea := ha.e
  have eb := hb.e
  unfold addP addQ
  generalize den a / gI (den a) (den b) = u at *
  generalize den b / gI (den a) (den b) = w at *
  generalize den a = s at *
  generalize den b = t at *
  refine mk_val hK ?_ (Int.mul_pos q1 db) ⟨by have := ha.n; have := hb.n; omega, h⟩ ?_
  · have := Int.mul_nonneg pa q2
    have := Int.mul_nonneg pb (Int.le_of_lt q1)
    omega
  · calc K * (a.P * w + b.P * u) = K * a.P * w + K * b.P * u := by rw [Int.mul_add, Int.mul_assoc, Int.mul_assoc]
      _ = s * x * w + t * y * u := by rw [ea, eb]
      _ = s * w * x + u * t * y := by rw [Int.mul_right_comm s x w, Int.mul_right_comm t y u, Int.mul_comm t u]
      _ = u * t * x + u * t * y := by rw [hd]
      _ = u * t * (x + y) := (Int.mul_add _ _ _).symm
theorem cross {K : Int} {a b : Rq} {x y : Int} (ha : Vk K a x) (hb : Vk K b y) : K * (a.P * den b) = den a * den b * x ∧ K * (b.P * den a) = den a * den b * y := by
  constructor
  · rw [← Int.mul_assoc, ha.e, Int.mul_right_comm]
  · rw [← Int.mul_assoc, hb.e, Int.mul_right_comm, Int.mul_comm (den b) (den a)]
theorem cmp_val {K : Int} {a b : Rq} {x y : Int} (hK : 0 < K) (ha : Vk K a x) (hb : Vk K b y) : cmpR a b = if x = y then 0 else if x < y then -1 else 1 := by
  obtain ⟨h1, h2⟩ := cross ha hb
  have hd := Int.mul_pos (den_pos ha.c) (den_pos hb.c)
  unfold cmpR
  rw [if_pos (both_of ha.c hb.c)]
  generalize a.P * den b = p at *
  generalize b.P * den a = q at *
  generalize den a * den b = d at *
  have e1 : p = q ↔ x = y := by
    constructor
    · rintro rfl; exact Int.eq_of_mul_eq_mul_left (Int.ne_of_gt hd) (h1.symm.trans h2)
    · rintro rfl; exact Int.eq_of_mul_eq_mul_left (Int.ne_of_gt hK) (h1.trans h2.symm)
  have e2 : p < q ↔ x < y := by
    constructor
    · intro h
      have := Int.mul_lt_mul_of_pos_left h hK
      rw [h1, h2] at this
      exact Int.lt_of_mul_lt_mul_left this (Int.le_of_lt hd)
    · intro h
      have := Int.mul_lt_mul_of_pos_left h hd
      rw [← h1, ← h2] at this
      exact Int.lt_of_mul_lt_mul_left this (Int.le_of_lt hK)
  by_cases h : x = y
  · rw [if_pos h, if_pos (e1.2 h)]
  · rw [if_neg h, if_neg (fun k => h (e1.1 k))]
    by_cases h3 : x < y
    · rw [if_pos h3, if_pos (e2.2 h3)]
    · rw [if_neg h3, if_neg (fun k => h3 (e2.1 k))]
theorem eq_val {K : Int} {a b : Rq} {x : Int} (hK : 0 < K) (ha : Vk K a x) (hb : Vk K b x) (qa : 1 ≤ a.Q) (qb : 1 ≤ b.Q) : a = b := by
  obtain ⟨h1, h2⟩ := cross ha hb
  have h : a.P * den b = b.P * den a := Int.eq_of_mul_eq_mul_left (Int.ne_of_gt hK) (h1.trans h2.symm)
  have pa := ha.p hK
  have pb := hb.p hK
  have va := ha.c
  have vb := hb.c
  clear h1 h2 ha hb
  obtain ⟨P, Q⟩ := a
  obtain ⟨p, q⟩ := b
  have hga : gI (absI P) (absI Q) = 1 := by
    rcases valid_iff.1 va with h | h
    · rw [Rq.mk.injEq] at h; change 1 ≤ Q at qa; omega
    · exact h.2.2.2.2
  have hgb : gI (absI p) (absI q) = 1 := by
    rcases valid_iff.1 vb with h | h
    · rw [Rq.mk.injEq] at h; change 1 ≤ q at qb; omega
    · exact h.2.2.2.2
  change 1 ≤ Q at qa
  change 1 ≤ q at qb
  change 0 ≤ P at pa
  change 0 ≤ p at pb
  have e1 : den ⟨P, Q⟩ = Q := if_neg (by show ¬ Q = 0; omega)
  have e2 : den ⟨p, q⟩ = q := if_neg (by show ¬ q = 0; omega)
  rw [e1, e2] at h
  change P * q = p * Q at h
  obtain ⟨A, rfl⟩ := Int.eq_ofNat_of_zero_le pa
  obtain ⟨B, rfl⟩ := Int.eq_ofNat_of_zero_le (Int.le_trans (by decide) qa)
  obtain ⟨C, rfl⟩ := Int.eq_ofNat_of_zero_le pb
  obtain ⟨D, rfl⟩ := Int.eq_ofNat_of_zero_le (Int.le_trans (by decide) qb)
  have h : A * D = C * B := by exact_mod_cast h
  rw [show absI (A : Int) = A from if_neg (by omega), show absI (B : Int) = B from if_neg (by omega)] at hga
  rw [show absI (C : Int) = C from if_neg (by omega), show absI (D : Int) = D from if_neg (by omega)] at hgb
  have ca : Nat.Coprime A B := by
    show Nat.gcd A B = 1
    have : ((Nat.gcd A B : Nat) : Int) = 1 := hga
    omega
  have cb : Nat.Coprime C D := by
    show Nat.gcd C D = 1
    have : ((Nat.gcd C D : Nat) : Int) = 1 := hgb
    omega
  have d1 : B ∣ D := ca.symm.dvd_of_dvd_mul_left ⟨C, by rw [h, Nat.mul_comm]⟩
  have d2 : D ∣ B := cb.symm.dvd_of_dvd_mul_left ⟨A, by rw [← h, Nat.mul_comm]⟩
  have hBD := Nat.dvd_antisymm d1 d2
  subst hBD
  have : A = C := Nat.eq_of_mul_eq_mul_right (by omega) h
  subst this
  rfl
/-- The share of k out of n of a cost. -/
theorem mul_val {K : Int} {c : Rq} {w : Int} {k n m : Nat} (hK : 0 < K ∧ K ≤ 1000) (hc : Vk K c w) (h1 : 0 < k) (h2 : k ≤ n) (h3 : n ≤ 256) (hm : w * k = n * (m : Int)) (hw : (m : Int) ≤ 1000000) : mulE c (mkV k n) = 0 ∧ Vk K (mulV c (mkV k n)) m ∧ 1 ≤ (mulV c (mkV k n)).Q := by
  obtain ⟨he, hv, hp⟩ := Bg.mk_small h1 h2 h3
  have hbo := both_of hc.c hv
  have hE : mulE c (mkV k n) = mkErr (c.P * (mkV k n).P) (den c * den (mkV k n)) := if_pos hbo
  have hV : mulV c (mkV k n) = mkV (c.P * (mkV k n).P) (den c * den (mkV k n)) := if_pos hbo
  rw [hE, hV]
  have hr : (mkV (k : Int) n).P * n = k * den (mkV (k : Int) n) := by
    have hk0 : absI (k : Int) = k := if_neg (by omega)
    have hn0 : absI (n : Int) = n := if_neg (by omega)
    have hval : mkV (k : Int) n = ⟨k / gI k n, n / gI k n⟩ := by
      rw [show mkV (k : Int) n = _ from if_pos he, hk0, hn0, if_neg (by simp; omega)]
    have hd := div_gI (x := (k : Int)) (y := n) (by omega) (by omega)
    have hq : 0 < den (mkV (k : Int) n) := den_pos hv
    rw [hval] at hq ⊢
    unfold den at hq ⊢
    show (k : Int) / gI k n * n = k * (if (n : Int) / gI k n = 0 then 1 else (n : Int) / gI k n)
    have hg := gI_pos (x := (k : Int)) (y := n) (.inl (by omega))
    obtain ⟨_, b, hb, hb0⟩ := gI_dvd (x := (k : Int)) (y := n) (by omega) (by omega)
    have eb : (n : Int) / gI k n = b := Int.ediv_eq_of_eq_mul_right (by omega) hb
    rw [if_neg (by rw [eb]; intro h0; rw [h0, Int.mul_zero] at hb; omega)]
    exact hd.symm
  have dc := den_pos hc.c
  have dr := den_pos hv
  have pc := hc.p hK.1
  have ec := hc.e
  generalize mkV (k : Int) n = r at *
  refine mk_val hK (Int.mul_nonneg pc hp) (Int.mul_pos dc dr) ⟨by omega, hw⟩ ?_
  have hn0 : (n : Int) ≠ 0 := by omega
  apply Int.eq_of_mul_eq_mul_left hn0
  calc (n : Int) * (K * (c.P * r.P)) = K * c.P * (r.P * n) := by rw [Int.mul_comm, ← Int.mul_assoc K, Int.mul_assoc (K * c.P)]
    _ = den c * w * (k * den r) := by rw [ec, hr]
    _ = den c * den r * (w * k) := by rw [Int.mul_comm (k : Int) (den r), Int.mul_assoc (den c) w, Int.mul_left_comm w (den r), Int.mul_assoc (den c)]
    _ = den c * den r * (n * m) := by rw [hm]
    _ = n * (den c * den r * m) := Int.mul_left_comm _ _ _
end Go.Rt
