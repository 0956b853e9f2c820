/- Fractions whose numerators and denominators are small, by their values; plain. Budgets: asks by the values of their fractions; plain. -/
import Derived.Test.YtdbebdjnpckfdaaDoorRf
import Derived.Test.YtdbebdjnpckfdaaDoorMg
set_option linter.unusedSimpArgs false
set_option linter.unusedVariables false
namespace Go.Rt
/-- r is a valid fraction, and K r is the whole number v. -/
structure Vk (K : Int) (r : Rq) (v : Int) : Prop where
  c : valid r = true
  n : 0 ≤ v
  e : K * r.P = den r * v
theorem den_pos {r : Rq} (h : valid r = true) : 0 < den r := by have := (valid_b h).1; omega
theorem Vk.p {K : Int} {r : Rq} {v : Int} (hK : 0 < K) (h : Vk K r v) : 0 ≤ r.P := by
  have h1 := Int.mul_nonneg (Int.le_of_lt (den_pos h.c)) h.n
  rw [← h.e] at h1
  by_cases hp : r.P < 0
  · have : K * r.P < 0 := Int.mul_neg_of_pos_of_neg hK hp
    omega
  · omega
theorem Vk.zero (K : Int) : Vk K rz 0 := ⟨by decide, by decide, by show K * 0 = den rz * 0; rw [Int.mul_zero, Int.mul_zero]⟩
theorem Vk.scale {K m : Int} {r : Rq} {v : Int} (hm : 0 ≤ m) (h : Vk K r v) : Vk (m * K) r (m * v) :=
  ⟨h.c, Int.mul_nonneg hm h.n, by rw [Int.mul_assoc, h.e, Int.mul_left_comm]⟩
/-- Make of p and q, where K p / q is the whole number v. -/
theorem mk_val {K p q v : Int} (hK : 0 < K ∧ K ≤ 1000) (hp : 0 ≤ p) (hq : 0 < q) (hv : 0 ≤ v ∧ v ≤ 1000000) (h : K * p = q * v) : mkErr p q = 0 ∧ Vk K (mkV p q) v ∧ 1 ≤ (mkV p q).Q := by
  have hap : absI p = p := if_neg (by omega)
  have haq : absI q = q := if_neg (by omega)
  obtain ⟨P, rfl⟩ := Int.eq_ofNat_of_zero_le hp
  obtain ⟨Q, rfl⟩ := Int.eq_ofNat_of_zero_le (Int.le_of_lt hq)
  obtain ⟨k, rfl⟩ := Int.eq_ofNat_of_zero_le (Int.le_of_lt hK.1)
  obtain ⟨w, rfl⟩ := Int.eq_ofNat_of_zero_le hv.1
  have hn : k * P = Q * w := by exact_mod_cast h
  have hQ : 0 < Q := by omega
  have hg : 0 < Nat.gcd P Q := Nat.gcd_pos_of_pos_right _ hQ
  obtain ⟨a, ha⟩ := Nat.gcd_dvd_left P Q
  obtain ⟨b, hb⟩ := Nat.gcd_dvd_right P Q
  have ea : P / Nat.gcd P Q = a := Nat.div_eq_of_eq_mul_right hg ha
  have eb : Q / Nat.gcd P Q = b := Nat.div_eq_of_eq_mul_right hg hb
  have hco : Nat.Coprime a b := by rw [← ea, ← eb]; exact Nat.coprime_div_gcd_div_gcd hg
  have hb0 : 0 < b := by
    rcases Nat.eq_zero_or_pos b with h0 | h0
    · rw [h0, Nat.mul_zero] at hb; omega
    · exact h0
  have h2 : k * a = b * w := by
    apply Nat.eq_of_mul_eq_mul_left hg
    calc Nat.gcd P Q * (k * a) = k * (Nat.gcd P Q * a) := Nat.mul_left_comm _ _ _
      _ = k * P := by rw [← ha]
      _ = Q * w := hn
      _ = Nat.gcd P Q * b * w := by rw [← hb]
      _ = Nat.gcd P Q * (b * w) := Nat.mul_assoc _ _ _
  have hbk : b ∣ k := hco.symm.dvd_of_dvd_mul_right ⟨w, h2⟩
  have hbl : b ≤ k := Nat.le_of_dvd (by omega) hbk
  have hal : a ≤ w ∨ a = 0 := by
    left
    obtain ⟨m, hm⟩ := hbk
    rw [hm, Nat.mul_assoc] at h2
    have := Nat.eq_of_mul_eq_mul_left hb0 h2
    have hm0 : 0 < m := by
      rcases Nat.eq_zero_or_pos m with h0 | h0
      · rw [h0, Nat.mul_zero] at hm; omega
      · exact h0
    calc a = 1 * a := (Nat.one_mul a).symm
      _ ≤ m * a := Nat.mul_le_mul_right a hm0
      _ = w := this
  have hG : gI (P : Int) (Q : Int) = (Nat.gcd P Q : Nat) := rfl
  have ea' : (P : Int) / gI P Q = a := by rw [hG, ← ea]; rfl
  have eb' : (Q : Int) / gI P Q = b := by rw [hG, ← eb]; rfl
  have he : mkErr P Q = 0 := by
    unfold mkErr
    rw [if_neg (by omega), hap, haq, ea', eb', if_neg (by omega)]
  have hval : mkV P Q = ⟨a, b⟩ := by
    unfold mkV
    rw [if_pos he, hap, haq, ea', eb', if_neg (by simp; omega)]
  have hc := mkV_valid hq he
  refine ⟨he, ⟨hc, hv.1, ?_⟩, ?_⟩
  · rw [hval]
    show (k : Int) * a = (if (b : Int) = 0 then 1 else (b : Int)) * w
    rw [if_neg (by omega)]
    exact_mod_cast h2
  · rw [hval]; show (1 : Int) ≤ b; omega
theorem both_of {a b : Rq} (ha : valid a = true) (hb : valid b = true) : both a b = true := by unfold both; rw [ha, hb]; rfl
theorem div_gI {x y : Int} (hx : 0 < x) (hy : 0 < y) : x * (y / gI x y) = x / gI x y * y := by
  obtain ⟨⟨a, ha, _⟩, b, hb, _⟩ := gI_dvd (Int.le_of_lt hx) (Int.le_of_lt hy)
  have hg := gI_pos (x := x) (y := y) (.inl hx)
  have ea : x / gI x y = a := Int.ediv_eq_of_eq_mul_right (by omega) ha
  have eb : y / gI x y = b := Int.ediv_eq_of_eq_mul_right (by omega) hb
  rw [ea, eb]
  generalize gI x y = g at *
  rw [ha, hb, Int.mul_comm g a, Int.mul_assoc]
theorem add_val {K : Int} {a b : Rq} {x y : Int} (hK : 0 < K ∧ K ≤ 1000) (ha : Vk K a x) (hb : Vk K b y) (h : x + y ≤ 1000000) : addE a b = 0 ∧ Vk K (addV a b) (x + y) ∧ 1 ≤ (addV a b).Q := by
  have hbo := both_of ha.c hb.c
  have hE : addE a b = mkErr (addP a b) (addQ a b) := if_pos hbo
  have hV : addV a b = mkV (addP a b) (addQ a b) := if_pos hbo
  rw [hE, hV]
  have da := den_pos ha.c
  have db := den_pos hb.c
  have pa := ha.p hK.1
  have pb := hb.p hK.1
  have hg := gI_pos (x := den a) (y := den b) (.inl da)
  have hd := div_gI da db
  have q1 : 0 < den a / gI (den a) (den b) := by
    have := Int.mul_pos da db
    obtain ⟨⟨u, hu, hu0⟩, _⟩ := gI_dvd (Int.le_of_lt da) (Int.le_of_lt db)
    have e : den a / gI (den a) (den b) = u := Int.ediv_eq_of_eq_mul_right (by omega) hu
    rw [e]
    by_cases h0 : u = 0
    · rw [h0, Int.mul_zero] at hu; omega
    · omega
  have q2 : 0 ≤ den b / gI (den a) (den b) := Int.ediv_nonneg (Int.le_of_lt db) (by omega)
  have ea := ha.e
  have eb := hb.e
  unfold addP addQ
  generalize den a / gI (den a) (den b) = u at *
  generalize den b / gI (den a) (den b) = w at *
  generalize den a = s at *
  generalize den b = t at *
  refine mk_val hK ?_ (Int.mul_pos q1 db) ⟨by have := ha.n; have := hb.n; omega, h⟩ ?_
  · have := Int.mul_nonneg pa q2
    have := Int.mul_nonneg pb (Int.le_of_lt q1)
    omega
  · calc K * (a.P * w + b.P * u) = K * a.P * w + K * b.P * u := by rw [Int.mul_add, Int.mul_assoc, Int.mul_assoc]
      _ = s * x * w + t * y * u := by rw [ea, eb]
      _ = s * w * x + u * t * y := by rw [Int.mul_right_comm s x w, Int.mul_right_comm t y u, Int.mul_comm t u]
      _ = u * t * x + u * t * y := by rw [hd]
      _ = u * t * (x + y) := (Int.mul_add _ _ _).symm
theorem cross {K : Int} {a b : Rq} {x y : Int} (ha : Vk K a x) (hb : Vk K b y) : K * (a.P * den b) = den a * den b * x ∧ K * (b.P * den a) = den a * den b * y := by
  constructor
  · rw [← Int.mul_assoc, ha.e, Int.mul_right_comm]
  · rw [← Int.mul_assoc, hb.e, Int.mul_right_comm, Int.mul_comm (den b) (den a)]
theorem cmp_val {K : Int} {a b : Rq} {x y : Int} (hK : 0 < K) (ha : Vk K a x) (hb : Vk K b y) : cmpR a b = if x = y then 0 else if x < y then -1 else 1 := by
  obtain ⟨h1, h2⟩ := cross ha hb
  have hd := Int.mul_pos (den_pos ha.c) (den_pos hb.c)
  unfold cmpR
  rw [if_pos (both_of ha.c hb.c)]
  generalize a.P * den b = p at *
  generalize b.P * den a = q at *
  generalize den a * den b = d at *
  have e1 : p = q ↔ x = y := by
    constructor
    · rintro rfl; exact Int.eq_of_mul_eq_mul_left (Int.ne_of_gt hd) (h1.symm.trans h2)
    · rintro rfl; exact Int.eq_of_mul_eq_mul_left (Int.ne_of_gt hK) (h1.trans h2.symm)
  have e2 : p < q ↔ x < y := by
    constructor
    · intro h
      have := Int.mul_lt_mul_of_pos_left h hK
      rw [h1, h2] at this
      exact Int.lt_of_mul_lt_mul_left this (Int.le_of_lt hd)
    · intro h
      have := Int.mul_lt_mul_of_pos_left h hd
      rw [← h1, ← h2] at this
      exact Int.lt_of_mul_lt_mul_left this (Int.le_of_lt hK)
  by_cases h : x = y
  · rw [if_pos h, if_pos (e1.2 h)]
  · rw [if_neg h, if_neg (fun k => h (e1.1 k))]
    by_cases h3 : x < y
    · rw [if_pos h3, if_pos (e2.2 h3)]
    · rw [if_neg h3, if_neg (fun k => h3 (e2.1 k))]
/-- The share of k out of n of a cost. -/
theorem mul_val {K : Int} {c : Rq} {w : Int} {k n m : Nat} (hK : 0 < K ∧ K ≤ 1000) (hc : Vk K c w) (h1 : 0 < k) (h2 : k ≤ n) (h3 : n ≤ 256) (hm : w * k = n * (m : Int)) (hw : (m : Int) ≤ 1000000) : mulE c (mkV k n) = 0 ∧ Vk K (mulV c (mkV k n)) m ∧ 1 ≤ (mulV c (mkV k n)).Q := by
  obtain ⟨he, hv, hp⟩ := Bg.mk_small h1 h2 h3
  have hbo := both_of hc.c hv
  have hE : mulE c (mkV k n) = mkErr (c.P * (mkV k n).P) (den c * den (mkV k n)) := if_pos hbo
  have hV : mulV c (mkV k n) = mkV (c.P * (mkV k n).P) (den c * den (mkV k n)) := if_pos hbo
  rw [hE, hV]
  have hr : (mkV (k : Int) n).P * n = k * den (mkV (k : Int) n) := by
    have hk0 : absI (k : Int) = k := if_neg (by omega)
    have hn0 : absI (n : Int) = n := if_neg (by omega)
    have hval : mkV (k : Int) n = ⟨k / gI k n, n / gI k n⟩ := by
      rw [show mkV (k : Int) n = _ from if_pos he, hk0, hn0, if_neg (by simp; omega)]
    have hd := div_gI (x := (k : Int)) (y := n) (by omega) (by omega)
    have hq : 0 < den (mkV (k : Int) n) := den_pos hv
    rw [hval] at hq ⊢
    unfold den at hq ⊢
    show (k : Int) / gI k n * n = k * (if (n : Int) / gI k n = 0 then 1 else (n : Int) / gI k n)
    have hg := gI_pos (x := (k : Int)) (y := n) (.inl (by omega))
    obtain ⟨_, b, hb, hb0⟩ := gI_dvd (x := (k : Int)) (y := n) (by omega) (by omega)
    have eb : (n : Int) / gI k n = b := Int.ediv_eq_of_eq_mul_right (by omega) hb
    rw [if_neg (by rw [eb]; intro h0; rw [h0, Int.mul_zero] at hb; omega)]
    exact hd.symm
  have dc := den_pos hc.c
  have dr := den_pos hv
  have pc := hc.p hK.1
  have ec := hc.e
  generalize mkV (k : Int) n = r at *
  refine mk_val hK (Int.mul_nonneg pc hp) (Int.mul_pos dc dr) ⟨by omega, hw⟩ ?_
  have hn0 : (n : Int) ≠ 0 := by omega
  apply Int.eq_of_mul_eq_mul_left hn0
  calc (n : Int) * (K * (c.P * r.P)) = K * c.P * (r.P * n) := by rw [Int.mul_comm, ← Int.mul_assoc K, Int.mul_assoc (K * c.P)]
    _ = den c * w * (k * den r) := by rw [ec, hr]
    _ = den c * den r * (w * k) := by rw [Int.mul_comm (k : Int) (den r), Int.mul_assoc (den c) w, Int.mul_left_comm w (den r), Int.mul_assoc (den c)]
    _ = den c * den r * (n * m) := by rw [hm]
    _ = n * (den c * den r * m) := Int.mul_left_comm _ _ _
end Go.Rt

namespace Go.Bg
open Go.Rt Go.Lx
def vl (r : Rq) : Int := 72 * r.P / den r
theorem _root_.Go.Rt.Vk.vl {r : Rq} {v : Int} (h : Vk 72 r v) : vl r = v := by
  have hd := den_pos h.c
  unfold Bg.vl
  rw [h.e, Int.mul_ediv_cancel_left _ (by omega)]
/-- An account with small fractions, of which no more is used than its limit. -/
structure Av (a : Acc) : Prop where
  l : Vk 72 a.L (vl a.L)
  u : Vk 72 a.U (vl a.U)
  le : vl a.U ≤ vl a.L
  b : vl a.L ≤ 100000
structure BV (b : Bk) : Prop where
  a : ∀ i, i < b.A.length → Av (b.A.getD i accZ)
  o : ∀ i, i < b.O.length → Av (b.O.getD i accZ)
theorem set_getD {A : List Acc} {k i : Nat} {v : Acc} (hk : k < A.length) : (A.set k v).getD i accZ = if i = k then v else A.getD i accZ := by
  rw [List.getD_eq_getElem?_getD, List.getD_eq_getElem?_getD, List.getElem?_set]
  by_cases h : k = i
  · subst h; rw [if_pos rfl, if_pos hk, if_pos rfl]; rfl
  · rw [if_neg h, if_neg (fun e => h e.symm)]
theorem chg_all {c : Rq} : ∀ (l : List Int) (A : List Acc) (ov : Bool), l.Nodup → (∀ p ∈ l, 0 ≤ p ∧ p < A.length) → (∀ p ∈ l, acE (A.getD p.toNat accZ) c = 0) →
    (chg A ov c l).e = 0 ∧ (∀ i : Nat, (chg A ov c l).A.getD i accZ = if (i : Int) ∈ l then acV (A.getD i accZ) c else A.getD i accZ) ∧ ((chg A ov c l).ov = true ↔ ov = true ∨ ∃ p ∈ l, acO (A.getD p.toNat accZ) c = true) ∧ (chg A ov c l).A.length = A.length
  | [], A, ov, _, _, _ => ⟨rfl, fun i => (if_neg List.not_mem_nil).symm, ⟨fun h => .inl h, fun h => h.elim id fun ⟨p, hp, _⟩ => absurd hp List.not_mem_nil⟩, rfl⟩
  | p :: r, A, ov, hn, hl, he => by
    have hp := hl p List.mem_cons_self
    have hpe := he p List.mem_cons_self
    obtain ⟨hpr, hr⟩ := List.nodup_cons.1 hn
    have hg : ∀ q ∈ r, (A.set p.toNat (acV (A.getD p.toNat accZ) c)).getD q.toNat accZ = A.getD q.toNat accZ := fun q hq => by
      have h1 := hl q (List.mem_cons_of_mem _ hq)
      rw [set_getD (by omega), if_neg fun e => hpr (by rw [show p = q by omega]; exact hq)]
    obtain ⟨h1, h2, h3, h4⟩ := chg_all r (A.set p.toNat (acV (A.getD p.toNat accZ) c)) (ov || acO (A.getD p.toNat accZ) c) hr (fun q hq => by rw [List.length_set]; exact hl q (List.mem_cons_of_mem _ hq)) (fun q hq => by rw [hg q hq]; exact he q (List.mem_cons_of_mem _ hq))
    have hu : chg A ov c (p :: r) = chg (A.set p.toNat (acV (A.getD p.toNat accZ) c)) (ov || acO (A.getD p.toNat accZ) c) c r := by
      show (if acE (A.getD p.toNat accZ) c ≠ 0 then _ else _) = _
      rw [if_neg (fun h => h hpe)]
    rw [hu]
    refine ⟨h1, fun i => ?_, ?_, by rw [h4, List.length_set]⟩
    · rw [h2 i, set_getD (by omega)]
      by_cases hi : i = p.toNat
      · have e : (i : Int) = p := by omega
        rw [if_pos hi, e, if_neg hpr, if_pos List.mem_cons_self, hi]
      · have e : (i : Int) ≠ p := by omega
        rw [if_neg hi]
        by_cases hr2 : (i : Int) ∈ r
        · rw [if_pos hr2, if_pos (List.mem_cons_of_mem _ hr2)]
        · rw [if_neg hr2, if_neg (fun h => (List.mem_cons.1 h).elim e hr2)]
    · rw [h3, Bool.or_eq_true]
      constructor
      · rintro ((h | h) | ⟨q, hq, h⟩)
        · exact .inl h
        · exact .inr ⟨p, List.mem_cons_self, h⟩
        · rw [hg q hq] at h; exact .inr ⟨q, List.mem_cons_of_mem _ hq, h⟩
      · rintro (h | ⟨q, hq, h⟩)
        · exact .inl (.inl h)
        · rcases List.mem_cons.1 hq with rfl | hq
          · exact .inl (.inr h)
          · exact .inr ⟨q, hq, by rw [hg q hq]; exact h⟩
theorem chO_all {W l : List Int} {c : Rq} : ∀ (n o : Nat) (A : List Acc) (ov : Bool), o + n ≤ A.length → (∀ i, o ≤ i → i < o + n → cnt W l i ≠ 0 → shrE c (cnt W l i) l.length = 0 ∧ acE (A.getD i accZ) (shr c (cnt W l i) l.length) = 0) →
    (chO W l c o n A ov).e = 0 ∧ (∀ i : Nat, (chO W l c o n A ov).A.getD i accZ = if (o ≤ i ∧ i < o + n) ∧ cnt W l i ≠ 0 then acV (A.getD i accZ) (shr c (cnt W l i) l.length) else A.getD i accZ) ∧ ((chO W l c o n A ov).ov = true ↔ ov = true ∨ ∃ i, (o ≤ i ∧ i < o + n) ∧ cnt W l i ≠ 0 ∧ acO (A.getD i accZ) (shr c (cnt W l i) l.length) = true) ∧ (chO W l c o n A ov).A.length = A.length
  | 0, o, A, ov, _, _ => ⟨rfl, fun i => (if_neg (by omega)).symm, ⟨fun h => .inl h, fun h => h.elim id fun ⟨i, hi, _⟩ => absurd hi.1 (by omega)⟩, rfl⟩
  | n + 1, o, A, ov, hn, he => by
    by_cases h0 : cnt W l o = 0
    · obtain ⟨h1, h2, h3, h4⟩ := chO_all n (o + 1) A ov (by omega) (fun i a b k => he i (by omega) (by omega) k)
      have hu : chO W l c o (n + 1) A ov = chO W l c (o + 1) n A ov := if_pos h0
      rw [hu]
      refine ⟨h1, fun i => ?_, ?_, h4⟩
      · rw [h2 i]
        by_cases hi : (o + 1 ≤ i ∧ i < o + 1 + n) ∧ cnt W l i ≠ 0
        · rw [if_pos hi, if_pos ⟨by omega, hi.2⟩]
        · rw [if_neg hi, if_neg fun k => hi ⟨by
            have : i ≠ o := fun e => k.2 (e ▸ h0)
            omega, k.2⟩]
      · rw [h3]
        constructor
        · rintro (h | ⟨i, hi, h⟩)
          · exact .inl h
          · exact .inr ⟨i, by omega, h⟩
        · rintro (h | ⟨i, hi, h⟩)
          · exact .inl h
          · have : i ≠ o := fun e => h.1 (e ▸ h0)
            exact .inr ⟨i, by omega, h⟩
    · obtain ⟨e1, e2⟩ := he o (by omega) (by omega) h0
      have hg : ∀ i, o + 1 ≤ i → (A.set o (acV (A.getD o accZ) (shr c (cnt W l o) l.length))).getD i accZ = A.getD i accZ := fun i hi => by
        rw [set_getD (by omega), if_neg (by omega)]
      obtain ⟨h1, h2, h3, h4⟩ := chO_all n (o + 1) (A.set o (acV (A.getD o accZ) (shr c (cnt W l o) l.length))) (ov || acO (A.getD o accZ) (shr c (cnt W l o) l.length)) (by rw [List.length_set]; omega) (fun i a b k => by rw [hg i a]; exact he i (by omega) (by omega) k)
      have hu : chO W l c o (n + 1) A ov = chO W l c (o + 1) n (A.set o (acV (A.getD o accZ) (shr c (cnt W l o) l.length))) (ov || acO (A.getD o accZ) (shr c (cnt W l o) l.length)) := by
        show (if cnt W l o = 0 then _ else _) = _
        rw [if_neg h0, if_neg (fun h => h e1), if_neg (fun h => h e2)]
      rw [hu]
      refine ⟨h1, fun i => ?_, ?_, by rw [h4, List.length_set]⟩
      · rw [h2 i]
        by_cases hi : i = o
        · subst hi
          rw [if_neg (by omega), if_pos ⟨by omega, h0⟩, set_getD (by omega), if_pos rfl]
        · rw [set_getD (by omega), if_neg hi]
          by_cases hk : (o + 1 ≤ i ∧ i < o + 1 + n) ∧ cnt W l i ≠ 0
          · rw [if_pos hk, if_pos ⟨by omega, hk.2⟩]
          · rw [if_neg hk, if_neg fun k => hk ⟨by omega, k.2⟩]
      · rw [h3, Bool.or_eq_true]
        constructor
        · rintro ((h | h) | ⟨i, hi, k, h⟩)
          · exact .inl h
          · exact .inr ⟨o, by omega, h0, h⟩
          · rw [hg i hi.1] at h; exact .inr ⟨i, by omega, k, h⟩
        · rintro (h | ⟨i, hi, k, h⟩)
          · exact .inl (.inl h)
          · by_cases e : i = o
            · subst e; exact .inl (.inr h)
            · exact .inr ⟨i, by omega, k, by rw [hg i (by omega)]; exact h⟩
theorem kn_nodup {b : Bk} {l : List Int} (h : knE b l = 0) : l.Nodup := by
  refine List.pairwise_iff_getElem.2 fun i j hi hj hij e => ?_
  have hk := knL_all (show knL b l 0 l.length = 0 from h) j (by omega) (by omega)
  have hm : l.getD j 0 ∈ l.take j := by
    rw [List.getD_eq_getElem?_getD, List.getElem?_eq_getElem hj]
    show l[j] ∈ l.take j
    rw [← e]
    exact List.mem_take_iff_getElem.2 ⟨i, by omega, rfl⟩
  unfold kn at hk
  by_cases h1 : l.getD j 0 < 0 ∨ (b.A.length : Int) ≤ l.getD j 0
  · rw [if_pos h1] at hk; cases hk
  · rw [if_neg h1, if_pos hm] at hk; cases hk
/-- What an ask adds to a person, and to an owner. -/
def pc (l : List Int) (w : Int) (i : Nat) : Int := if (i : Int) ∈ l then 6 * w else 0
def sh (W l : List Int) (w : Int) (i : Nat) : Int := (6 / (l.length : Int)) * w * (cnt W l i : Int)
theorem shr_val {c : Rq} {w : Int} {k n : Nat} (hc : Vk 12 c w) (hw : w ≤ 1000) (h1 : 0 < k) (h2 : k ≤ n) (h3 : n ≤ 3) : shrE c k n = 0 ∧ Vk 72 (shr c k n) ((6 / (n : Int)) * w * k) ∧ 1 ≤ (shr c k n).Q := by
  have hw0 := hc.n
  obtain ⟨m, hm⟩ := Int.eq_ofNat_of_zero_le (a := (6 / (n : Int)) * w * k) (Int.mul_nonneg (Int.mul_nonneg (Int.ediv_nonneg (by omega) (by omega)) hw0) (by omega))
  have hn6 : (n : Int) * (6 / (n : Int)) = 6 := by
    rcases (by omega : n = 1 ∨ n = 2 ∨ n = 3) with rfl | rfl | rfl <;> decide
  have hs := hc.scale (m := 6) (by decide)
  have he : 6 * w * k = n * (m : Int) := by
    rw [← hm, ← Int.mul_assoc, ← Int.mul_assoc, hn6]
  have hb : (m : Int) ≤ 1000000 := by
    have h4 : (m : Int) * 1 ≤ m * n := Int.mul_le_mul_of_nonneg_left (by omega) (by omega)
    have h5 : (6 * w) * (k : Int) ≤ (6 * w) * 3 := Int.mul_le_mul_of_nonneg_left (by omega) (by omega)
    rw [he, Int.mul_comm] at h5
    omega
  have := mul_val (K := 72) ⟨by decide, by decide⟩ hs h1 h2 (by omega) he hb
  rw [hm]
  exact this
theorem ac_val {a : Acc} {c : Rq} {v : Int} (ha : Av a) (hc : Vk 72 c v) (hv : v ≤ 100000) : acE a c = 0 ∧ Vk 72 (acV a c).U (vl a.U + v) ∧ 1 ≤ (acV a c).U.Q ∧ (acO a c = true ↔ vl a.L < vl a.U + v) := by
  obtain ⟨h1, h2, h3⟩ := add_val (K := 72) ⟨by decide, by decide⟩ ha.u hc (by have := ha.le; have := ha.b; omega)
  refine ⟨h1, h2, h3, ?_⟩
  unfold acO
  rw [decide_eq_true_eq, cmp_val (by decide) h2 ha.l]
  by_cases e : vl a.U + v = vl a.L
  · rw [if_pos e]; constructor <;> intro h <;> omega
  · rw [if_neg e]
    by_cases e2 : vl a.U + v < vl a.L
    · rw [if_pos e2]; constructor <;> intro h <;> omega
    · rw [if_neg e2]; constructor <;> intro h <;> omega
theorem sh_le {W l : List Int} {w : Int} (hw : 0 ≤ w ∧ w ≤ 1000) (hl : l.length ≤ 3) (i : Nat) : sh W l w i ≤ 18000 := by
  have h1 := cnt_le W l i
  have h2 : (6 / (l.length : Int)) ≤ 6 := Int.ediv_le_self _ (by decide)
  have h0 : 0 ≤ (6 / (l.length : Int)) := Int.ediv_nonneg (by omega) (by omega)
  have h3 : (6 / (l.length : Int)) * w ≤ 6 * 1000 := Int.mul_le_mul h2 hw.2 hw.1 (by decide)
  have h4 : (6 / (l.length : Int)) * w * (cnt W l i : Int) ≤ 6 * 1000 * 3 := Int.mul_le_mul h3 (by omega) (by omega) (by decide)
  exact h4
section
variable {b : Bk} {l : List Int} {c : Rq} {w : Int}
theorem ask_parts (hv : BV b) (hl : l.length ≤ 3) (hc : Vk 12 c w) (hw : w ≤ 1000) (hk : knE b l = 0) :
    ((askP b l c).e = 0 ∧ (∀ i : Nat, (askP b l c).A.getD i accZ = if (i : Int) ∈ l then acV (b.A.getD i accZ) c else b.A.getD i accZ) ∧ ((askP b l c).ov = true ↔ ∃ i, i < b.A.length ∧ vl (b.A.getD i accZ).L < vl (b.A.getD i accZ).U + pc l w i) ∧ (askP b l c).A.length = b.A.length) ∧
    ((askO b l c).e = 0 ∧ (∀ i : Nat, (askO b l c).A.getD i accZ = if i < b.O.length ∧ cnt b.W l i ≠ 0 then acV (b.O.getD i accZ) (shr c (cnt b.W l i) l.length) else b.O.getD i accZ) ∧ ((askO b l c).ov = true ↔ (askP b l c).ov = true ∨ ∃ i, i < b.O.length ∧ vl (b.O.getD i accZ).L < vl (b.O.getD i accZ).U + sh b.W l w i) ∧ (askO b l c).A.length = b.O.length) := by
  have hw0 := hc.n
  have hc72 := hc.scale (m := 6) (by decide)
  have hr := kn_range hk
  have hac : ∀ i, i < b.A.length → _ := fun i hi => ac_val (hv.a i hi) (show Vk 72 c (6 * w) from hc72) (by omega)
  obtain ⟨p1, p2, p3, p4⟩ := chg_all (c := c) l b.A false (kn_nodup hk) hr (fun p hp => by have := hr p hp; exact (hac p.toNat (by omega)).1)
  have hso : ∀ i, i < b.O.length → cnt b.W l i ≠ 0 → shrE c (cnt b.W l i) l.length = 0 ∧ Vk 72 (shr c (cnt b.W l i) l.length) (sh b.W l w i) := fun i hi h0 => by
    have := shr_val (k := cnt b.W l i) (n := l.length) hc hw (by omega) (cnt_le _ _ _) hl
    exact ⟨this.1, this.2.1⟩
  have hao : ∀ i, i < b.O.length → cnt b.W l i ≠ 0 → _ := fun i hi h0 => ac_val (hv.o i hi) (hso i hi h0).2 (by have := sh_le (W := b.W) ⟨hw0, hw⟩ hl i; omega)
  obtain ⟨o1, o2, o3, o4⟩ := chO_all (W := b.W) (l := l) (c := c) b.O.length 0 b.O (askP b l c).ov (by omega) (fun i _ hi h0 => ⟨(hso i (by omega) h0).1, (hao i (by omega) h0).1⟩)
  refine ⟨⟨p1, p2, ?_, p4⟩, o1, fun i => ?_, ?_, o4⟩
  · show (chg b.A false c l).ov = true ↔ _
    rw [p3]
    constructor
    · rintro (h | ⟨p, hp, h⟩)
      · cases h
      · have hpr := hr p hp
        refine ⟨p.toNat, by omega, ?_⟩
        have := (hac p.toNat (by omega)).2.2.2.1 h
        unfold pc
        rw [if_pos (by rw [Int.toNat_of_nonneg hpr.1]; exact hp)]
        exact this
    · rintro ⟨i, hi, h⟩
      have hle := (hv.a i hi).le
      unfold pc at h
      by_cases hm : (i : Int) ∈ l
      · rw [if_pos hm] at h
        exact .inr ⟨i, hm, (hac i hi).2.2.2.2 h⟩
      · rw [if_neg hm] at h; omega
  · show (chO b.W l c 0 b.O.length b.O (askP b l c).ov).A.getD i accZ = _
    rw [o2 i]
    by_cases h : i < b.O.length ∧ cnt b.W l i ≠ 0
    · rw [if_pos h, if_pos ⟨by omega, h.2⟩]
    · rw [if_neg h, if_neg fun k => h ⟨by omega, k.2⟩]
  · show (chO b.W l c 0 b.O.length b.O (askP b l c).ov).ov = true ↔ _
    rw [o3]
    constructor
    · rintro (h | ⟨i, hi, h0, h⟩)
      · exact .inl h
      · exact .inr ⟨i, by omega, (hao i (by omega) h0).2.2.2.1 h⟩
    · rintro (h | ⟨i, hi, h⟩)
      · exact .inl h
      · by_cases h0 : cnt b.W l i = 0
        · have hle := (hv.o i hi).le
          unfold sh at h
          rw [h0, Int.ofNat_zero, Int.mul_zero] at h
          omega
        · exact .inr ⟨i, by omega, h0, (hao i hi h0).2.2.2.2 h⟩
/-- When an ask is possible. -/
theorem ask_iff (hv : BV b) (hl : l.length ≤ 3) (hc : Vk 12 c w) (hw : w ≤ 1000) : askE b l c = 0 ↔ l ≠ [] ∧ knE b l = 0 ∧ (∀ i, i < b.A.length → vl (b.A.getD i accZ).U + pc l w i ≤ vl (b.A.getD i accZ).L) ∧ ∀ i, i < b.O.length → vl (b.O.getD i accZ).U + sh b.W l w i ≤ vl (b.O.getD i accZ).L := by
  have hcost : isCost c = true := cost_iff.2 ⟨hc.c, hc.p (by decide)⟩
  constructor
  · intro h
    obtain ⟨h1, _, h3, _, _, h6⟩ := ask_zero h
    obtain ⟨⟨_, _, p3, _⟩, _, _, o3, _⟩ := ask_parts hv hl hc hw h3
    refine ⟨h1, h3, fun i hi => ?_, fun i hi => ?_⟩
    · refine Int.not_lt.1 fun k => ?_
      rw [o3.2 (.inl (p3.2 ⟨i, hi, k⟩))] at h6; cases h6
    · refine Int.not_lt.1 fun k => ?_
      rw [o3.2 (.inr ⟨i, hi, k⟩)] at h6; cases h6
  · rintro ⟨h1, h2, h3, h4⟩
    obtain ⟨⟨p1, _, p3, _⟩, o1, _, o3, _⟩ := ask_parts hv hl hc hw h2
    rw [ask_end (fun k => k.elim h1 fun k => by rw [hcost] at k; cases k) h2 p1 o1, if_neg]
    intro h
    rcases o3.1 h with h | ⟨i, hi, h⟩
    · obtain ⟨i, hi, h⟩ := p3.1 h
      have := h3 i hi; omega
    · have := h4 i hi; omega
/-- What a possible ask leads to. -/
structure Asked (b b' : Bk) (l : List Int) (c : Rq) (w : Int) : Prop where
  v : BV b'
  na : b'.A.length = b.A.length
  no : b'.O.length = b.O.length
  W : b'.W = b.W
  R : b'.R = b.R
  a : ∀ i, b'.A.getD i accZ = if (i : Int) ∈ l then acV (b.A.getD i accZ) c else b.A.getD i accZ
  o : ∀ i, b'.O.getD i accZ = if i < b.O.length ∧ cnt b.W l i ≠ 0 then acV (b.O.getD i accZ) (shr c (cnt b.W l i) l.length) else b.O.getD i accZ
  la : ∀ i, (b'.A.getD i accZ).L = (b.A.getD i accZ).L
  lo : ∀ i, (b'.O.getD i accZ).L = (b.O.getD i accZ).L
  ua : ∀ i, i < b.A.length → vl (b'.A.getD i accZ).U = vl (b.A.getD i accZ).U + pc l w i
  uo : ∀ i, i < b.O.length → vl (b'.O.getD i accZ).U = vl (b.O.getD i accZ).U + sh b.W l w i
  qa : ∀ i : Nat, i < b.A.length → (i : Int) ∈ l → 1 ≤ (b'.A.getD i accZ).U.Q
  qo : ∀ i, i < b.O.length → cnt b.W l i ≠ 0 → 1 ≤ (b'.O.getD i accZ).U.Q
theorem asked (hv : BV b) (hl : l.length ≤ 3) (hc : Vk 12 c w) (hw : w ≤ 1000) (h : askE b l c = 0) : Asked b (askB b l c) l c w := by
  have hw0 := hc.n
  have hc72 := hc.scale (m := 6) (by decide)
  obtain ⟨h1, h2, h3, h4⟩ := (ask_iff hv hl hc hw).1 h
  obtain ⟨⟨p1, p2, p3, p4⟩, o1, o2, o3, o4⟩ := ask_parts hv hl hc hw h2
  have hB : askB b l c = ⟨(askP b l c).A, (askO b l c).A, b.W, b.R⟩ := if_pos h
  rw [hB]
  have hac : ∀ i, i < b.A.length → _ := fun i hi => ac_val (hv.a i hi) (show Vk 72 c (6 * w) from hc72) (by omega)
  have hao : ∀ i, i < b.O.length → cnt b.W l i ≠ 0 → _ := fun i hi h0 => ac_val (hv.o i hi) (shr_val (k := cnt b.W l i) (n := l.length) hc hw (by omega) (cnt_le _ _ _) hl).2.1 (by have := sh_le (W := b.W) ⟨hw0, hw⟩ hl i; unfold sh at this; omega)
  have la : ∀ i, ((askP b l c).A.getD i accZ).L = (b.A.getD i accZ).L := fun i => by rw [p2 i]; split <;> rfl
  have lo : ∀ i, ((askO b l c).A.getD i accZ).L = (b.O.getD i accZ).L := fun i => by rw [o2 i]; split <;> rfl
  have va : ∀ i, i < b.A.length → Vk 72 ((askP b l c).A.getD i accZ).U (vl (b.A.getD i accZ).U + pc l w i) := fun i hi => by
    rw [p2 i]; unfold pc
    by_cases hm : (i : Int) ∈ l
    · rw [if_pos hm, if_pos hm]; exact (hac i hi).2.1
    · rw [if_neg hm, if_neg hm, Int.add_zero]; exact (hv.a i hi).u
  have vo : ∀ i, i < b.O.length → Vk 72 ((askO b l c).A.getD i accZ).U (vl (b.O.getD i accZ).U + sh b.W l w i) := fun i hi => by
    rw [o2 i]
    by_cases hm : cnt b.W l i ≠ 0
    · rw [if_pos ⟨hi, hm⟩]; exact (hao i hi hm).2.1
    · have e : cnt b.W l i = 0 := Decidable.byContradiction hm
      rw [if_neg fun k => hm k.2]
      unfold sh
      rw [e, Int.ofNat_zero, Int.mul_zero, Int.add_zero]; exact (hv.o i hi).u
  refine ⟨⟨fun i hi => ?_, fun i hi => ?_⟩, p4, o4, rfl, rfl, p2, o2, la, lo, fun i hi => (va i hi).vl, fun i hi => (vo i hi).vl, fun i hi hm => ?_, fun i hi hm => ?_⟩
  · change i < (askP b l c).A.length at hi
    rw [p4] at hi
    have hA := hv.a i hi
    refine ⟨?_, ?_, ?_, ?_⟩
    · show Vk 72 ((askP b l c).A.getD i accZ).L _
      rw [la i]; exact hA.l
    · show Vk 72 ((askP b l c).A.getD i accZ).U (vl ((askP b l c).A.getD i accZ).U)
      rw [(va i hi).vl]; exact va i hi
    · show vl ((askP b l c).A.getD i accZ).U ≤ vl ((askP b l c).A.getD i accZ).L
      rw [(va i hi).vl, la i]; exact h3 i hi
    · show vl ((askP b l c).A.getD i accZ).L ≤ _
      rw [la i]; exact hA.b
  · change i < (askO b l c).A.length at hi
    rw [o4] at hi
    have hA := hv.o i hi
    refine ⟨?_, ?_, ?_, ?_⟩
    · show Vk 72 ((askO b l c).A.getD i accZ).L _
      rw [lo i]; exact hA.l
    · show Vk 72 ((askO b l c).A.getD i accZ).U (vl ((askO b l c).A.getD i accZ).U)
      rw [(vo i hi).vl]; exact vo i hi
    · show vl ((askO b l c).A.getD i accZ).U ≤ vl ((askO b l c).A.getD i accZ).L
      rw [(vo i hi).vl, lo i]; exact h4 i hi
    · show vl ((askO b l c).A.getD i accZ).L ≤ _
      rw [lo i]; exact hA.b
  · show 1 ≤ ((askP b l c).A.getD i accZ).U.Q
    rw [p2 i, if_pos hm]; exact (hac i hi).2.2.1
  · show 1 ≤ ((askO b l c).A.getD i accZ).U.Q
    rw [o2 i, if_pos ⟨hi, hm⟩]; exact (hao i hi hm).2.2.1
end
end Go.Bg
