/- Draws: the words of seeds and paths, and whether the first one is taken; plain. Fractions: the plain law. -/
import Derived.Test.YtdbebdjnpckfdaaDoorSn
import Derived.Test.YtdbebdjnpckfdaaDoorNb
import Derived.Test.YtdbebdjnpckfdaaDoorFp
set_option linter.unusedSimpArgs false
set_option linter.unusedVariables false
namespace Go.Dw
open Go.V Go.RowKit Go.U Go.L Go.Lx
/-- A number of the first six bytes. -/
def wordI (d : List UInt8) : Int := (((((((d.getD 0 0).toNat * 256 + (d.getD 1 0).toNat) * 256 + (d.getD 2 0).toNat) * 256 + (d.getD 3 0).toNat) * 256 + (d.getD 4 0).toNat) * 256 + (d.getD 5 0).toNat : Nat) : Int)
theorem byte_lt (x : UInt8) : x.toNat < 256 := x.toNat_lt
theorem wordI_bd (d : List UInt8) : 0 ≤ wordI d ∧ wordI d < 281474976710656 := by
  have h0 := byte_lt (d.getD 0 0)
  have h1 := byte_lt (d.getD 1 0)
  have h2 := byte_lt (d.getD 2 0)
  have h3 := byte_lt (d.getD 3 0)
  have h4 := byte_lt (d.getD 4 0)
  have h5 := byte_lt (d.getD 5 0)
  unfold wordI
  omega
theorem wordI_low (d : List UInt8) (h : (d.getD 0 0).toNat < 255 ∨ (d.getD 1 0).toNat < 128) : wordI d < 280925220896768 := by
  have h0 := byte_lt (d.getD 0 0)
  have h1 := byte_lt (d.getD 1 0)
  have h2 := byte_lt (d.getD 2 0)
  have h3 := byte_lt (d.getD 3 0)
  have h4 := byte_lt (d.getD 4 0)
  have h5 := byte_lt (d.getD 5 0)
  unfold wordI
  omega
/-- A word that is low enough is taken. -/
theorem taken {w n : Int} (hn : 1 ≤ n ∧ n ≤ 549755813888) (hw : w < 280925220896768) : w < 281474976710656 / n * n := by
  have h1 := Int.mul_ediv_add_emod 281474976710656 n
  have h2 := Int.emod_lt_of_pos 281474976710656 (show 0 < n by omega)
  rw [Int.mul_comm] at h1
  omega
end Go.Dw
namespace Go.Proofs.YtdbebdjnpckfdaaDoor
open Go.V Go.RowKit Go.U Go.L Go.Lx Go.Dw
def inputW (seed : List UInt8) (path : List Int) (t : Int) : List UInt8 := inputB 8 [seed, intsB (path ++ [t])]
def drw (seed : List UInt8) (path : List Int) (t : Int) : Int := wordI (Sha.sum (inputW seed path t))
theorem drw_bd (seed : List UInt8) (path : List Int) (t : Int) : 0 ≤ drw seed path t ∧ drw seed path t < 281474976710656 := wordI_bd _
end Go.Proofs.YtdbebdjnpckfdaaDoor
namespace Go.Dw
/-! Reckoned with numbers for bytes. -/
def intL (n : Nat) : List Nat := if n = 0 then [128] else if n < 256 then [129, n] else [130, n / 256, n % 256]
def bytesL (l : List Nat) : List Nat := intL l.length ++ l
def inL (t : Nat) (ps : List (List Nat)) : List Nat := t :: ps.flatMap bytesL
def intsL (l : List Nat) : List Nat := intL l.length ++ l.flatMap intL
/-- Each number is reckoned before the rest. -/
noncomputable def forceL {α : Type} (l : List Nat) : (List Nat → α) → α := @List.rec Nat (fun _ => (List Nat → α) → α) (fun k => k []) (fun x _ ih k => @Nat.rec (fun _ => α) (ih fun r => k (0 :: r)) (fun m _ => ih fun r => k (Nat.succ m :: r)) x) l
theorem forceL_eq {α : Type} : ∀ (l : List Nat) (k : List Nat → α), forceL l k = k l
  | [], k => rfl
  | x :: l, k => by
    cases x with
    | zero => exact forceL_eq l fun r => k (0 :: r)
    | succ m => exact forceL_eq l fun r => k (Nat.succ m :: r)
noncomputable def lowL (seed : List Nat) (l : List Nat) : Bool := forceL (inL 8 [seed, intsL (l ++ [0])]) fun x => forceL ((Sha.sumL x).take 2) fun d => Nat.blt (d.getD 0 0) 255 || Nat.blt (d.getD 1 0) 128
noncomputable def lowAll (seed : List Nat) (I F V : Nat) : Bool := (List.range I).all fun i => (List.range F).all fun f => (List.range V).all fun v => lowL seed [11, i, f, v]
abbrev nat (l : List UInt8) : List Nat := l.map UInt8.toNat
end Go.Dw
namespace Go.Proofs.YtdbebdjnpckfdaaDoor
open Go.V Go.RowKit Go.U Go.L Go.Lx Go.Dw
theorem int_L (n : Nat) (h : n < 65536) : nat (Wire.int (n : Nat)) = intL n := by
  have hm : Wire.mag (n : Nat) = n := by unfold Wire.mag; rw [if_neg (by omega)]; omega
  have hf : Wire.flip (n : Nat) = 0 := by unfold Wire.flip; rw [if_neg (by omega)]
  unfold Wire.int intL
  rw [hm, hf]
  by_cases h0 : n = 0
  · subst h0; rfl
  rw [if_neg h0]
  by_cases h1 : n < 256
  · have hn : Wire.nd n = 1 := by unfold Wire.nd; rw [if_neg (by omega), if_pos h1]
    rw [if_pos h1, hn]
    simp [Wire.digs, Wire.dig]
    omega
  · have hn : Wire.nd n = 2 := by unfold Wire.nd; rw [if_neg (by omega), if_neg h1, if_pos h]
    rw [if_neg h1, hn]
    simp [Wire.digs, Wire.dig]
    omega
theorem bytes_L (l : List UInt8) (h : l.length < 65536) : nat (Wire.bytes l) = bytesL (nat l) := by
  unfold Wire.bytes bytesL nat
  rw [List.map_append, List.length_map]
  congr 1
  exact int_L _ h
theorem parts_L : ∀ (ps : List (List UInt8)), (∀ p ∈ ps, p.length < 65536) → nat (partsB ps) = (ps.map nat).flatMap bytesL
  | [], _ => rfl
  | p :: ps, h => by
    have ih := parts_L ps fun q hq => h q (List.mem_cons_of_mem _ hq)
    have h1 := bytes_L p (h p List.mem_cons_self)
    unfold nat at *
    simp only [partsB, List.flatMap_cons, List.map_append, List.map_cons] at *
    rw [h1, ih]
theorem in_L (t : Nat) (ht : t < 256) (ps : List (List UInt8)) (h : ∀ p ∈ ps, p.length < 65536) : nat (inputB (t : Nat) ps) = inL t (ps.map nat) := by
  have h1 := parts_L ps h
  unfold inL
  rw [← h1]
  unfold inputB nat
  rw [List.map_cons]
  congr 1
  unfold tagB
  rw [show ((t : Nat) : Int) % 256 = ((t % 256 : Nat) : Int) by omega, Int.toNat_natCast, UInt8.toNat_ofNat']
  omega
theorem ints_L (l : List Nat) (hl : l.length < 65536) (h : ∀ x ∈ l, x < 65536) : nat (intsB (l.map fun x : Nat => (x : Int))) = intsL l := by
  unfold intsB intsL nat
  rw [List.map_append, List.length_map]
  congr 1
  · exact int_L _ hl
  · clear hl
    induction l with
    | nil => rfl
    | cons x l ih =>
      have h1 := int_L x (h x List.mem_cons_self)
      unfold nat at h1
      simp only [List.map_cons, List.flatMap_cons, List.map_append]
      rw [h1, ih fun y hy => h y (List.mem_cons_of_mem _ hy)]
theorem low_of {seed : List UInt8} (hs : seed.length < 65536) {l : List Nat} (hl : l.length < 1000) (h : ∀ x ∈ l, x < 65536) (hk : lowL (nat seed) l = true) : drw seed (l.map fun x : Nat => (x : Int)) 0 < 280925220896768 := by
  have h2 := ints_L (l ++ [0]) (by simp; omega) (by
    intro x hx
    rcases List.mem_append.1 hx with hx | hx
    · exact h x hx
    · rw [List.mem_singleton.1 hx]; decide)
  rw [List.map_append] at h2
  have hb := (intsN_all ((l.map fun x : Nat => (x : Int)) ++ [0])) ▸ intsN_len ((l.map fun x : Nat => (x : Int)) ++ [0]) ((l.map fun x : Nat => (x : Int)) ++ [0]).length
  have h1 := in_L 8 (by decide) [seed, intsB ((l.map fun x : Nat => (x : Int)) ++ [0])] (by
    intro p hp
    rcases List.mem_cons.1 hp with rfl | hp
    · exact hs
    · rw [List.mem_singleton.1 hp]
      simp at hb
      omega)
  simp only [List.map_cons, List.map_nil] at h1 h2
  have h2 : nat (intsB ((l.map fun x : Nat => (x : Int)) ++ [0])) = intsL (l ++ [0]) := h2
  rw [h2] at h1
  unfold lowL at hk
  rw [forceL_eq, forceL_eq, ← h1] at hk
  have h3 := Sha.sum_l (inputB ((8 : Nat) : Int) [seed, intsB ((l.map fun x : Nat => (x : Int)) ++ [0])])
  unfold nat at hk
  rw [← h3] at hk
  refine wordI_low _ ?_
  have g : ∀ i, i < 2 → ((List.map UInt8.toNat (Sha.sum (inputB ((8 : Nat) : Int) [seed, intsB ((l.map fun x : Nat => (x : Int)) ++ [0])]))).take 2).getD i 0 = ((Sha.sum (inputW seed (l.map fun x : Nat => (x : Int)) 0)).getD i 0).toNat := fun i hi => by
    rw [List.getD_eq_getElem?_getD, List.getElem?_take, if_pos hi, ← List.getD_eq_getElem?_getD, Sha.getD_map]; rfl
  rw [g 0 (by decide), g 1 (by decide), Bool.or_eq_true] at hk
  simpa [Nat.blt_eq] using hk
theorem low_all {seed : List UInt8} (hs : seed.length < 65536) {I F V : Nat} (hk : lowAll (nat seed) I F V = true) (hI : I < 1000) (hF : F < 1000) (hV : V < 1000) {i f v : Nat} (hi : i < I) (hf : f < F) (hv : v < V) : drw seed [11, (i : Int), (f : Int), (v : Int)] 0 < 280925220896768 := by
  have h1 := List.all_eq_true.1 (List.all_eq_true.1 (List.all_eq_true.1 hk i (List.mem_range.2 hi)) f (List.mem_range.2 hf)) v (List.mem_range.2 hv)
  exact low_of hs (l := [11, i, f, v]) (by simp) (by simp; omega) h1
end Go.Proofs.YtdbebdjnpckfdaaDoor

namespace Go.Rt
structure Rq where
  P : Int
  Q : Int
  deriving DecidableEq
abbrev rz : Rq := ⟨0, 0⟩
def den (r : Rq) : Int := if r.Q = 0 then 1 else r.Q
def absI (n : Int) : Int := if n < 0 then -n else n
def gI (x y : Int) : Int := ((Nat.gcd x.toNat y.toNat : Nat) : Int)
def valid (r : Rq) : Bool := decide (r = rz) || decide (1 ≤ r.Q ∧ r.Q ≤ 2147483648 ∧ -2147483648 ≤ r.P ∧ r.P ≤ 2147483648 ∧ gI (absI r.P) (absI r.Q) = 1)
def mkErr (p q : Int) : Int := if q = 0 then 1 else if 2147483648 < absI p / gI (absI p) (absI q) ∨ 2147483648 < absI q / gI (absI p) (absI q) then 5 else 0
def mkV (p q : Int) : Rq := if mkErr p q = 0 then ⟨if (decide (p < 0) != decide (q < 0)) = true then -(absI p / gI (absI p) (absI q)) else absI p / gI (absI p) (absI q), absI q / gI (absI p) (absI q)⟩ else rz
def addP (a b : Rq) : Int := a.P * (den b / gI (den a) (den b)) + b.P * (den a / gI (den a) (den b))
def addQ (a b : Rq) : Int := den a / gI (den a) (den b) * den b
def both (a b : Rq) : Bool := valid a && valid b
def addE (a b : Rq) : Int := if both a b = true then mkErr (addP a b) (addQ a b) else 1
def addV (a b : Rq) : Rq := if both a b = true then mkV (addP a b) (addQ a b) else rz
def mulE (a b : Rq) : Int := if both a b = true then mkErr (a.P * b.P) (den a * den b) else 1
def mulV (a b : Rq) : Rq := if both a b = true then mkV (a.P * b.P) (den a * den b) else rz
def cmpR (a b : Rq) : Int := if both a b = true then (if a.P * den b = b.P * den a then 0 else if a.P * den b < b.P * den a then -1 else 1) else 0
structure R64 (r : Rq) : Prop where
  p : -9223372036854775808 ≤ r.P ∧ r.P ≤ 9223372036854775807
  q : -9223372036854775808 ≤ r.Q ∧ r.Q ≤ 9223372036854775807
theorem absI_nn (n : Int) : 0 ≤ absI n := by unfold absI; split <;> omega
theorem gI_pos {x y : Int} (h : 0 < x ∨ 0 < y) : 1 ≤ gI x y := by
  unfold gI
  have : 0 < Nat.gcd x.toNat y.toNat := by
    rcases h with h | h
    · exact Nat.gcd_pos_of_pos_left _ (by omega)
    · exact Nat.gcd_pos_of_pos_right _ (by omega)
  omega
theorem gI_le {x y : Int} (h : 0 < y) : gI x y ≤ y := by
  unfold gI
  have := Nat.le_of_dvd (by omega) (Nat.gcd_dvd_right x.toNat y.toNat)
  omega
theorem gI_nn (x y : Int) : 0 ≤ gI x y := by unfold gI; omega
theorem gI_zero (x : Int) (h : 0 ≤ x) : gI x 0 = x := by unfold gI; simp; omega
theorem gI_step {x y : Int} (hx : 0 ≤ x) (hy : 0 < y) : gI x y = gI y (x % y) := by
  unfold gI
  congr 1
  have e : (x % y).toNat = x.toNat % y.toNat := Int.toNat_emod hx (by omega)
  rw [e, Nat.gcd_comm, Nat.gcd_rec, Nat.gcd_comm]
theorem div_le {a g : Int} (ha : 0 ≤ a) (hg : 1 ≤ g) : 0 ≤ a / g ∧ a / g ≤ a := by
  refine ⟨Int.ediv_nonneg ha (by omega), ?_⟩
  exact Int.ediv_le_self _ ha
/-- What a valid fraction is. -/
theorem valid_iff {r : Rq} : valid r = true ↔ r = rz ∨ (1 ≤ r.Q ∧ r.Q ≤ 2147483648 ∧ -2147483648 ≤ r.P ∧ r.P ≤ 2147483648 ∧ gI (absI r.P) (absI r.Q) = 1) := by
  unfold valid; rw [Bool.or_eq_true, decide_eq_true_eq, decide_eq_true_eq]
theorem valid_b {r : Rq} (h : valid r = true) : (1 ≤ den r ∧ den r ≤ 2147483648) ∧ (-2147483648 ≤ r.P ∧ r.P ≤ 2147483648) := by
  rcases valid_iff.1 h with rfl | ⟨h1, h2, h3, h4, _⟩
  · exact ⟨by decide, by decide⟩
  · unfold den; rw [if_neg (by omega)]; omega
theorem gI_dvd {x y : Int} (hx : 0 ≤ x) (hy : 0 ≤ y) : (∃ k, x = gI x y * k ∧ 0 ≤ k) ∧ ∃ k, y = gI x y * k ∧ 0 ≤ k := by
  obtain ⟨a, rfl⟩ := Int.eq_ofNat_of_zero_le hx
  obtain ⟨b, rfl⟩ := Int.eq_ofNat_of_zero_le hy
  unfold gI
  simp only [Int.toNat_natCast]
  obtain ⟨c, hc⟩ := Nat.gcd_dvd_left a b
  obtain ⟨d, hd⟩ := Nat.gcd_dvd_right a b
  exact ⟨⟨(c : Int), by exact_mod_cast hc, by omega⟩, ⟨(d : Int), by exact_mod_cast hd, by omega⟩⟩
/-- In a sum of valid fractions nothing overflows. -/
theorem add_fit {a b : Rq} (ha : valid a = true) (hb : valid b = true) :
    (0 ≤ den b / gI (den a) (den b) ∧ den b / gI (den a) (den b) ≤ 2147483648) ∧ (0 ≤ den a / gI (den a) (den b) ∧ den a / gI (den a) (den b) ≤ 2147483648) ∧
    (den b / gI (den a) (den b) < 2147483648 ∨ den a / gI (den a) (den b) < 2147483648) := by
  obtain ⟨⟨a1, a2⟩, _⟩ := valid_b ha
  obtain ⟨⟨b1, b2⟩, _⟩ := valid_b hb
  have hg := gI_pos (x := den a) (y := den b) (.inl (by omega))
  have h1 := div_le (a := den a) (g := gI (den a) (den b)) (by omega) hg
  have h2 := div_le (a := den b) (g := gI (den a) (den b)) (by omega) hg
  refine ⟨⟨h2.1, by omega⟩, ⟨h1.1, by omega⟩, ?_⟩
  refine Classical.byContradiction fun hn => ?_
  have e1 : den a / gI (den a) (den b) = 2147483648 := by omega
  have e2 : den b / gI (den a) (den b) = 2147483648 := by omega
  have f1 : den a = 2147483648 := by omega
  have f2 : den b = 2147483648 := by omega
  rw [f1, f2] at e1
  have : gI 2147483648 2147483648 = 2147483648 := by decide
  rw [this] at e1
  exact absurd e1 (by decide)
theorem mul_bd {x y : Int} (hx : -2147483648 ≤ x ∧ x ≤ 2147483648) (hy : 0 ≤ y ∧ y ≤ 2147483648) : -2147483648 * y ≤ x * y ∧ x * y ≤ 2147483648 * y :=
  ⟨Int.mul_le_mul_of_nonneg_right hx.1 hy.1, Int.mul_le_mul_of_nonneg_right hx.2 hy.1⟩
theorem add_bd {a b : Rq} (ha : valid a = true) (hb : valid b = true) :
    (-4611686018427387904 ≤ a.P * (den b / gI (den a) (den b)) ∧ a.P * (den b / gI (den a) (den b)) ≤ 4611686018427387904) ∧ (-4611686018427387904 ≤ b.P * (den a / gI (den a) (den b)) ∧ b.P * (den a / gI (den a) (den b)) ≤ 4611686018427387904) ∧
    (-9223372036854775807 ≤ addP a b ∧ addP a b ≤ 9223372036854775807) ∧ (0 ≤ addQ a b ∧ addQ a b ≤ 4611686018427387904) := by
  obtain ⟨h1, h2, h3⟩ := add_fit ha hb
  obtain ⟨⟨_, _⟩, ap⟩ := valid_b ha
  obtain ⟨⟨b1, b2⟩, bp⟩ := valid_b hb
  have m1 := mul_bd ap h1
  have m2 := mul_bd bp h2
  have m3 := mul_bd (x := den b) (y := den a / gI (den a) (den b)) ⟨by omega, b2⟩ h2
  have m4 : 0 ≤ den b * (den a / gI (den a) (den b)) := Int.mul_nonneg (by omega) h2.1
  unfold addP addQ
  rw [Int.mul_comm (den a / gI (den a) (den b)) (den b)]
  refine ⟨⟨by omega, by omega⟩, ⟨by omega, by omega⟩, ⟨by omega, by omega⟩, ⟨m4, by omega⟩⟩
theorem mul_bd2 {x y : Int} (hx : -2147483648 ≤ x ∧ x ≤ 2147483648) (hy : -2147483648 ≤ y ∧ y ≤ 2147483648) : -4611686018427387904 ≤ x * y ∧ x * y ≤ 4611686018427387904 := by
  rcases Int.le_total 0 y with h | h
  · have := mul_bd hx ⟨h, hy.2⟩; omega
  · have := mul_bd (y := -y) hx ⟨by omega, by omega⟩
    have e : x * -y = -(x * y) := Int.mul_neg x y
    rw [e] at this
    omega
/-- Fractions that Make gives. -/
theorem mkV_valid {p q : Int} (hq : 0 < q) (h : mkErr p q = 0) : valid (mkV p q) = true := by
  have hq0 : ¬ q = 0 := by omega
  have hv : mkV p q = ⟨if (decide (p < 0) != decide (q < 0)) = true then -(absI p / gI (absI p) (absI q)) else absI p / gI (absI p) (absI q), absI q / gI (absI p) (absI q)⟩ := if_pos h
  rw [hv]
  unfold mkErr at h
  rw [if_neg hq0] at h
  have hpn := absI_nn p
  have haq : absI q = q := by unfold absI; rw [if_neg (by omega)]
  rw [haq] at h ⊢
  have hg := gI_pos (x := absI p) (y := q) (.inr hq)
  obtain ⟨⟨k, hk, hk0⟩, m, hm, hm0⟩ := gI_dvd hpn (by omega : 0 ≤ q)
  have hco : gI (absI p / gI (absI p) q) (q / gI (absI p) q) = 1 := by
    have hd : ∀ {x y : Int}, 0 ≤ x → (x / y).toNat = x.toNat / y.toNat ∨ y < 0 := fun {x y} hx => by
      by_cases h : y < 0
      · exact .inr h
      · left
        obtain ⟨a, rfl⟩ := Int.eq_ofNat_of_zero_le hx
        obtain ⟨b, rfl⟩ := Int.eq_ofNat_of_zero_le (by omega : 0 ≤ y)
        rw [show ((a : Int) / (b : Int)) = ((a / b : Nat) : Int) from rfl]
        rfl
    have h1 := (hd (x := absI p) (y := gI (absI p) q) hpn).resolve_right (by omega)
    have h2 := (hd (x := q) (y := gI (absI p) q) (by omega)).resolve_right (by omega)
    have h3 : (gI (absI p) q).toNat = Nat.gcd (absI p).toNat q.toNat := by unfold gI; rfl
    have h4 : 0 < Nat.gcd (absI p).toNat q.toNat := by omega
    show ((Nat.gcd (absI p / gI (absI p) q).toNat (q / gI (absI p) q).toNat : Nat) : Int) = 1
    rw [h1, h2, h3, Nat.coprime_div_gcd_div_gcd h4]
    rfl
  generalize hA : absI p / gI (absI p) q = A at *
  generalize hB : q / gI (absI p) q = B at *
  have hA0 : 0 ≤ A := by rw [← hA]; exact Int.ediv_nonneg hpn (by omega)
  have hB0 : 1 ≤ B := by
    have e : B = m := by rw [← hB]; exact Int.ediv_eq_of_eq_mul_right (by omega) hm
    rw [e]
    by_cases h1 : m < 1
    · have : m = 0 := by omega
      rw [this] at hm; omega
    · omega
  by_cases hbig : 2147483648 < A ∨ 2147483648 < B
  · rw [if_pos hbig] at h; cases h
  have n1 : -2147483648 ≤ -A := by omega
  have n2 : -A ≤ 2147483648 := by omega
  refine valid_iff.2 (.inr ⟨hB0, (by omega : B ≤ 2147483648), ?_, ?_, ?_⟩)
  · show -2147483648 ≤ (if _ then -A else A)
    split
    · exact n1
    · omega
  · show (if _ then -A else A) ≤ 2147483648
    split
    · exact n2
    · omega
  · show gI (absI (if _ then -A else A)) (absI B) = 1
    have e1 : absI (if (decide (p < 0) != decide (q < 0)) = true then -A else A) = A := by
      unfold absI
      split <;> split <;> omega
    have e2 : absI B = B := by unfold absI; rw [if_neg (by omega)]
    rw [e1, e2, hco]
end Go.Rt
