
/- Hashes that the examples of the documentation want, reckoned by the kernel: numbers for bytes. -/
import Derived.Test.YthejnchhddggmaaDoorSn
import Derived.Test.YthejnchhddggmaaDoorNo
set_option linter.unusedSimpArgs false
set_option linter.unusedVariables false
namespace Go.Sg
open Sha
def intL (n : Nat) : List Nat := if n = 0 then [128] else if n < 256 then [129, n] else [130, n / 256, n % 256]
def bytesL (l : List Nat) : List Nat := intL l.length ++ l
def inL (t : Nat) (ps : List (List Nat)) : List Nat := t :: ps.flatMap bytesL
/-- Each number is reckoned before the rest. -/
noncomputable def forceL {α : Type} (l : List Nat) : (List Nat → α) → α := @List.rec Nat (fun _ => (List Nat → α) → α) (fun k => k []) (fun x _ ih k => @Nat.rec (fun _ => α) (ih fun r => k (0 :: r)) (fun m _ => ih fun r => k (Nat.succ m :: r)) x) l
theorem forceL_eq {α : Type} : ∀ (l : List Nat) (k : List Nat → α), forceL l k = k l
  | [], k => rfl
  | x :: l, k => by
    cases x with
    | zero => exact forceL_eq l fun r => k (0 :: r)
    | succ m => exact forceL_eq l fun r => k (Nat.succ m :: r)
noncomputable def dgL (t : Nat) (ps : List (List Nat)) : List Nat := forceL (inL t ps) fun l => (sumL l).take 16
def intsL (l : List Nat) : List Nat := intL l.length ++ l.flatMap intL
noncomputable def padL (key : List Nat) (w : Nat) : List Nat := (List.range 64).map fun i => Nat.xor (key.getD i 0) w
noncomputable def macL (key text : List Nat) : List Nat := forceL (padL key 54 ++ text) fun a => forceL (sumL a) fun b => forceL (padL key 92 ++ b) fun c => sumL c
noncomputable def startL (seed : List Nat) (i c : Nat) : List Nat := (macL seed (99 :: 104 :: 97 :: 105 :: 110 :: intsL [i, c])).take 16
noncomputable def advL (i c t : Nat) : Nat → List Nat → List Nat
  | 0, v => v
  | n + 1, v => forceL (advL i c t n v) fun v' => dgL 5 [intsL [i, c, t + n], v']
noncomputable def catL (V : Nat → List Nat) (n : Nat) : List Nat := (List.range n).flatMap fun c => forceL (V c) fun v => v
noncomputable def leafL (V : Nat → List Nat) : List Nat := forceL (dgL 3 [catL V 68]) fun k => dgL 1 [k]
def digL (l : List Nat) (c : Nat) : Nat := l.getD (c / 4) 0 / 4 ^ (3 - c % 4) % 4
def dsL (l : List Nat) : Nat → Nat
  | 0 => 0
  | n + 1 => dsL l n + (3 - digL l n)
def digsL (l : List Nat) (c : Nat) : Nat := if c < 64 then digL l c else dsL l 64 / 4 ^ (67 - c) % 4
/-- Bytes as numbers. -/
abbrev nat (l : List UInt8) : List Nat := l.map UInt8.toNat
end Go.Sg
namespace Go.Proofs.YthejnchhddggmaaDoor
open Go.V Go.RowKit Go.U Go.L Go.Lx Go.Sg
theorem int_L (n : Nat) (h : n < 65536) : nat (Wire.int (n : Nat)) = intL n := by
  have hm : Wire.mag (n : Nat) = n := by unfold Wire.mag; rw [if_neg (by omega)]; omega
  have hf : Wire.flip (n : Nat) = 0 := by unfold Wire.flip; rw [if_neg (by omega)]
  unfold Wire.int intL
  rw [hm, hf]
  by_cases h0 : n = 0
  · subst h0; rfl
  rw [if_neg h0]
  by_cases h1 : n < 256
  · have hn : Wire.nd n = 1 := by unfold Wire.nd; rw [if_neg (by omega), if_pos h1]
    rw [if_pos h1, hn]
    simp [Wire.digs, Wire.dig]
    omega
  · have hn : Wire.nd n = 2 := by unfold Wire.nd; rw [if_neg (by omega), if_neg h1, if_pos h]
    rw [if_neg h1, hn]
    simp [Wire.digs, Wire.dig]
    omega
theorem bytes_L (l : List UInt8) (h : l.length < 65536) : nat (Wire.bytes l) = bytesL (nat l) := by
  unfold Wire.bytes bytesL nat
  rw [List.map_append, List.length_map]
  congr 1
  exact int_L _ h
theorem parts_L : ∀ (ps : List (List UInt8)), (∀ p ∈ ps, p.length < 65536) → nat (partsB ps) = (ps.map nat).flatMap bytesL
  | [], _ => rfl
  | p :: ps, h => by
    have ih := parts_L ps fun q hq => h q (List.mem_cons_of_mem _ hq)
    have h1 := bytes_L p (h p List.mem_cons_self)
    unfold nat at *
    simp only [partsB, List.flatMap_cons, List.map_append, List.map_cons] at *
    rw [h1, ih]
theorem dig_L (t : Nat) (ht : t < 256) (ps : List (List UInt8)) (h : ∀ p ∈ ps, p.length < 65536) : nat (digD (t : Nat) ps) = dgL t (ps.map nat) := by
  have h1 := parts_L ps h
  unfold dgL digD inL
  rw [forceL_eq, ← h1]
  have h2 : nat (inputB (t : Nat) ps) = t :: nat (partsB ps) := by
    unfold inputB nat
    rw [List.map_cons]
    congr 1
    unfold tagB
    rw [show ((t : Nat) : Int) % 256 = ((t % 256 : Nat) : Int) by omega, Int.toNat_natCast, UInt8.toNat_ofNat']
    omega
  rw [← h2, ← Sha.sum_l]
  unfold nat
  rw [List.map_take]
theorem ints_L (l : List Nat) (hl : l.length < 65536) (h : ∀ x ∈ l, x < 65536) : nat (intsB (l.map fun x : Nat => (x : Int))) = intsL l := by
  unfold intsB intsL nat
  rw [List.map_append, List.length_map]
  congr 1
  · exact int_L _ hl
  · clear hl
    induction l with
    | nil => rfl
    | cons x l ih =>
      have h1 := int_L x (h x List.mem_cons_self)
      unfold nat at h1
      simp only [List.map_cons, List.flatMap_cons, List.map_append]
      rw [h1, ih fun y hy => h y (List.mem_cons_of_mem _ hy)]
theorem pad_L (key : List UInt8) (w : UInt8) : nat (padK key w) = padL (nat key) w.toNat := by
  unfold padK padL nat
  rw [List.map_map]
  refine List.map_congr_left fun i _ => ?_
  show (key.getD i 0 ^^^ w).toNat = Nat.xor ((key.map UInt8.toNat).getD i 0) w.toNat
  rw [UInt8.toNat_xor, Sha.getD_map]; rfl
theorem mac_L (key text : List UInt8) (hk : key.length ≤ 64) : nat (macB key text) = macL (nat key) (nat text) := by
  unfold macB macL
  have hkey : keyB key = key := by unfold keyB; rw [if_neg (by omega)]
  rw [hkey, forceL_eq, forceL_eq, forceL_eq]
  have h1 := Sha.sum_l (padK key 0x36 ++ text)
  have h2 := Sha.sum_l (padK key 0x5c ++ Sha.sum (padK key 0x36 ++ text))
  rw [List.map_append, h1, List.map_append] at h2
  have p1 := pad_L key 0x36
  have p2 := pad_L key 0x5c
  unfold nat at *
  rw [h2, p1, p2]; rfl
theorem start_L (seed : List UInt8) (hs : seed.length ≤ 64) (i c : Nat) (hi : i < 65536) (hc : c < 65536) : nat (startD seed (i : Nat) (c : Nat)) = startL (nat seed) i c := by
  have h1 := mac_L seed (99 :: 104 :: 97 :: 105 :: 110 :: intsB [(i : Int), (c : Int)]) hs
  have h2 := ints_L [i, c] (by simp) (by simp; omega)
  unfold startD startL nat at *
  rw [List.map_take, h1]
  simp only [List.map_cons, List.map_nil] at *
  rw [h2]; rfl
theorem adv_L (i c t : Nat) (hi : i < 65536) (hc : c < 65536) (v : List UInt8) (hv : v.length = 16) : ∀ n, t + n < 65536 → nat (advN (i : Nat) (c : Nat) (t : Nat) n v) = advL i c t n (nat v)
  | 0, _ => rfl
  | n + 1, h => by
    have ih := adv_L i c t hi hc v hv n (by omega)
    have hl := advN_length (i : Nat) (c : Nat) (t : Nat) v hv n
    have h2 := ints_L [i, c, t + n] (by simp) (by simp; omega)
    have hb := intsB_len [(i : Int), (c : Int), (t : Int) + (n : Int)]
    have h1 := dig_L 5 (by decide) [intsB [(i : Int), (c : Int), (t : Int) + (n : Int)], advN (i : Nat) (c : Nat) (t : Nat) n v] (by
      intro p hp
      rcases List.mem_cons.1 hp with rfl | hp
      · simp at hb; omega
      · rw [List.mem_singleton.1 hp, hl]; decide)
    unfold advN advL
    rw [forceL_eq, ← ih]
    simp only [List.map_cons, List.map_nil] at h1 h2
    rw [show ((t + n : Nat) : Int) = (t : Int) + (n : Int) by omega] at h2
    rw [← h2]
    exact h1
theorem cat_L (V : Nat → List UInt8) (W : Nat → List Nat) (n : Nat) (h : ∀ c, c < n → nat (V c) = W c) : nat (catV V n) = catL W n := by
  induction n with
  | zero => rfl
  | succ n ih =>
    have h1 := ih fun c hc => h c (by omega)
    have h2 := h n (by omega)
    have e : catL W (n + 1) = catL W n ++ W n := by
      unfold catL; rw [List.range_succ, List.flatMap_append]; simp [forceL_eq]
    rw [catV_succ, e, ← h1, ← h2]
    unfold nat
    rw [List.map_append]
theorem leaf_L (V : Nat → List UInt8) (W : Nat → List Nat) (hl : ∀ c, (V c).length = 16) (h : ∀ c, c < 68 → nat (V c) = W c) : nat (leafV V) = leafL W := by
  have h1 := cat_L V W 68 h
  have hcl := catV_length V hl 68
  have h2 := dig_L 3 (by decide) [catV V 68] (by intro p hp; rw [List.mem_singleton.1 hp, hcl]; decide)
  have h3 := dig_L 1 (by decide) [digD 3 [catV V 68]] (by intro p hp; rw [List.mem_singleton.1 hp, digD_length]; decide)
  unfold leafV leafL
  rw [forceL_eq]
  simp only [List.map_cons, List.map_nil] at h2 h3
  rw [← h1, ← h2]
  exact h3
theorem digs_L (d : List UInt8) (c : Nat) : dig d c = ((digsL (nat d) c : Nat) : Int) := by
  have hg : ∀ j, dg d j = ((digL (nat d) j : Nat) : Int) := fun j => by
    unfold dg digL nat; rw [Sha.getD_map]
  have hlt : ∀ j, digL (nat d) j ≤ 3 := fun j => by unfold digL; omega
  have hd : ∀ n, ds d n = ((dsL (nat d) n : Nat) : Int) := fun n => by
    induction n with
    | zero => rfl
    | succ n ih =>
      have := hlt n
      unfold ds dsL
      rw [ih, hg]; omega
  unfold dig digsL
  by_cases h : c < 64
  · rw [if_pos h, if_pos h, hg]
  · rw [if_neg h, if_neg h, hd]; push_cast; rfl
end Go.Proofs.YthejnchhddggmaaDoor
