
/- Trees of hashes: what package tree and its reference reckon, over whatever hash. No program in sight. -/
import Derived.RowKit
set_option linter.unusedSimpArgs false
set_option linter.unusedVariables false
namespace Tree
/-- The greatest power of 2 that is less than n (n from 2 on). -/
def halfF (n : Nat) : Nat → Nat → Nat
  | k, 0 => k
  | k, f + 1 => if 2 * k < n then halfF n (2 * k) f else k
def half (n : Nat) : Nat := halfF n 1 n
theorem halfF_spec (n : Nat) (h : 2 ≤ n) : ∀ (f k : Nat), 1 ≤ k → k < n → n ≤ k + f → ∃ e, halfF n k f = k * 2 ^ e ∧ k * 2 ^ e < n ∧ n ≤ 2 * (k * 2 ^ e)
  | 0, k, h1, h2, h3 => by omega
  | f + 1, k, h1, h2, h3 => by
    unfold halfF
    by_cases hc : 2 * k < n
    · rw [if_pos hc]
      obtain ⟨e, q1, q2, q3⟩ := halfF_spec n h f (2 * k) (by omega) hc (by omega)
      refine ⟨e + 1, ?_, ?_, ?_⟩
      · rw [q1, Nat.pow_succ]; ac_rfl
      · have : k * 2 ^ (e + 1) = 2 * k * 2 ^ e := by rw [Nat.pow_succ]; ac_rfl
        omega
      · have : k * 2 ^ (e + 1) = 2 * k * 2 ^ e := by rw [Nat.pow_succ]; ac_rfl
        omega
    · rw [if_neg hc]
      exact ⟨0, by simp, by simpa using h2, by simp; omega⟩
theorem half_spec (n : Nat) (h : 2 ≤ n) : ∃ e, half n = 2 ^ e ∧ 2 ^ e < n ∧ n ≤ 2 * 2 ^ e := by
  obtain ⟨e, h1, h2, h3⟩ := halfF_spec n h n 1 (by omega) (by omega) (by omega)
  rw [Nat.one_mul] at h1 h2 h3
  exact ⟨e, h1, h2, h3⟩
theorem half_lt {n : Nat} (h : 2 ≤ n) : half n < n := by obtain ⟨e, h1, h2, _⟩ := half_spec n h; omega
theorem half_pos {n : Nat} (h : 2 ≤ n) : 0 < half n := by obtain ⟨e, h1, _, _⟩ := half_spec n h; rw [h1]; exact Nat.pow_pos (by decide)
/-- Over the intervals that arise: by their lengths. -/
theorem ind {P : Nat → Nat → Prop} (h : ∀ a n, 1 ≤ n → (∀ a' n', 1 ≤ n' → n' < n → P a' n') → P a n) : ∀ a n, 1 ≤ n → P a n := by
  intro a n
  induction n using Nat.strongRecOn generalizing a with
  | _ n ih => intro hn; exact h a n hn fun a' n' h1 h2 => ih n' h2 a' h1
section
variable {S D : Type} (leaf : S → D) (node : D → D → D) (s0 : S)
/-- The rest of an interval, for a node. -/
def restF (p q : Nat) : Nat → Nat → Nat → List (Nat × Nat)
  | 0, _, _ => []
  | f + 1, a, n => if a + n ≤ p ∨ q ≤ a then [(a, a + n)] else if n ≤ 1 then [] else restF p q f a (half n) ++ restF p q f (a + half n) (n - half n)
def rest (p q a n : Nat) : List (Nat × Nat) := restF p q n a n
theorem restF_fuel (p q : Nat) : ∀ (f g a n : Nat), 1 ≤ n → n ≤ f → n ≤ g → restF p q f a n = restF p q g a n
  | 0, _, _, _, _, _, _ => by omega
  | _, 0, _, _, _, _, _ => by omega
  | f + 1, g + 1, a, n, hn, hf, hg => by
    unfold restF
    by_cases h0 : a + n ≤ p ∨ q ≤ a
    · rw [if_pos h0, if_pos h0]
    rw [if_neg h0, if_neg h0]
    by_cases h : n ≤ 1
    · rw [if_pos h, if_pos h]
    · rw [if_neg h, if_neg h]
      have h1 := half_lt (n := n) (by omega)
      have h2 := half_pos (n := n) (by omega)
      rw [restF_fuel p q f g a (half n) (by omega) (by omega) (by omega), restF_fuel p q f g (a + half n) (n - half n) (by omega) (by omega) (by omega)]
theorem rest_out {p q a n : Nat} (hn : 1 ≤ n) (h : a + n ≤ p ∨ q ≤ a) : rest p q a n = [(a, a + n)] := by
  unfold rest
  obtain ⟨f, rfl⟩ : ∃ f, n = f + 1 := ⟨n - 1, by omega⟩
  rw [restF, if_pos h]
theorem rest_one {p q a : Nat} (h : ¬ (a + 1 ≤ p ∨ q ≤ a)) : rest p q a 1 = [] := by
  unfold rest
  rw [restF, if_neg h, if_pos (Nat.le_refl _)]
theorem rest_node {p q a n : Nat} (hn : 2 ≤ n) (h : ¬ (a + n ≤ p ∨ q ≤ a)) : rest p q a n = rest p q a (half n) ++ rest p q (a + half n) (n - half n) := by
  have h1 := half_lt hn
  have h2 := half_pos hn
  unfold rest
  obtain ⟨f, rfl⟩ : ∃ f, n = f + 1 := ⟨n - 1, by omega⟩
  rw [restF, if_neg h, if_neg (by omega)]
  rw [restF_fuel p q f (half (f + 1)) _ _ (by omega) (by omega) (by omega), restF_fuel p q f (f + 1 - half (f + 1)) _ _ (by omega) (by omega) (by omega)]
/-- What the rest's intervals are. -/
theorem rest_mem {p q : Nat} : ∀ a n, 1 ≤ n → ∀ x ∈ rest p q a n, a ≤ x.1 ∧ x.1 < x.2 ∧ x.2 ≤ a + n ∧ (x.2 ≤ p ∨ q ≤ x.1) := by
  refine ind (P := fun a n => ∀ x ∈ rest p q a n, a ≤ x.1 ∧ x.1 < x.2 ∧ x.2 ≤ a + n ∧ (x.2 ≤ p ∨ q ≤ x.1)) fun a n hn ih x hx => ?_
  by_cases h0 : a + n ≤ p ∨ q ≤ a
  · rw [rest_out hn h0, List.mem_singleton] at hx
    subst hx
    exact ⟨Nat.le_refl _, by show a < a + n; omega, Nat.le_refl _, h0⟩
  by_cases h : n = 1
  · subst h; rw [rest_one h0] at hx; cases hx
  · have q1 := half_lt (n := n) (by omega)
    have q2 := half_pos (n := n) (by omega)
    rw [rest_node (by omega) h0] at hx
    rcases List.mem_append.1 hx with hx | hx
    · have := ih _ _ q2 q1 x hx; omega
    · have := ih _ _ (by omega) (by omega) x hx; omega
/-- The steps from m leaves, for a node: the rest of nothing at the place m. -/
def steps (m a n : Nat) : List (Nat × Nat) := rest m m a n
end
end Tree
namespace Tree
section
variable {S D : Type} (leaf : S → D) (node : D → D → D) (s0 : S) (z : D)
/-- The value of a node, where the nodes outside [p, q) are taken from L, from its number s on; the leaves within it are known from place p on. -/
def valF (p q : Nat) (L : List D) (leaves : List S) : Nat → Nat → Nat → Nat → D
  | 0, _, _, _ => z
  | f + 1, a, n, s => if a + n ≤ p ∨ q ≤ a then L.getD s z else if n ≤ 1 then leaf (leaves.getD (a - p) s0) else node (valF p q L leaves f a (half n) s) (valF p q L leaves f (a + half n) (n - half n) (s + (rest p q a (half n)).length))
def val (p q : Nat) (L : List D) (leaves : List S) (a n s : Nat) : D := valF leaf node s0 z p q L leaves n a n s
/-- Where an interval stands in a list; none: it is not there. -/
def find : List (Nat × Nat) → Nat → Nat → Option Nat
  | [], _, _ => none
  | x :: l, a, b => if x.1 = a ∧ x.2 = b then some 0 else (find l a b).map (· + 1)
/-- A list in which the rest of a node has its place. -/
structure Placed (p q a n s : Nat) (R : List (Nat × Nat)) : Prop where
  split : ∃ pre post, R = pre ++ (rest p q a n ++ post) ∧ pre.length = s ∧ (∀ x ∈ pre, x.1 < x.2 ∧ x.2 ≤ a) ∧ ∀ x ∈ post, a + n ≤ x.1
theorem Placed.all (p q n : Nat) : Placed p q 0 n 0 (rest p q 0 n) := ⟨[], [], by simp, rfl, (fun x h => by cases h), fun x h => by cases h⟩
theorem Placed.left {p q a n s : Nat} {R : List (Nat × Nat)} (h : Placed p q a n s R) (hn : 2 ≤ n) (h0 : ¬ (a + n ≤ p ∨ q ≤ a)) : Placed p q a (half n) s R := by
  obtain ⟨pre, post, rfl, h2, h3, h4⟩ := h.split
  have q1 := half_lt hn
  have q2 := half_pos hn
  refine ⟨pre, rest p q (a + half n) (n - half n) ++ post, by rw [rest_node hn h0, List.append_assoc], h2, h3, fun x hx => ?_⟩
  rcases List.mem_append.1 hx with hx | hx
  · exact (rest_mem _ _ (by omega) x hx).1
  · have := h4 x hx; omega
theorem Placed.right {p q a n s : Nat} {R : List (Nat × Nat)} (h : Placed p q a n s R) (hn : 2 ≤ n) (h0 : ¬ (a + n ≤ p ∨ q ≤ a)) : Placed p q (a + half n) (n - half n) (s + (rest p q a (half n)).length) R := by
  obtain ⟨pre, post, rfl, h2, h3, h4⟩ := h.split
  have q1 := half_lt hn
  have q2 := half_pos hn
  refine ⟨pre ++ rest p q a (half n), post, by rw [rest_node hn h0]; simp, by simp [h2], fun x hx => ?_, fun x hx => by have := h4 x hx; omega⟩
  rcases List.mem_append.1 hx with hx | hx
  · have := h3 x hx; omega
  · have := rest_mem _ _ q2 x hx; omega
/-- The root of the first m leaves of a node, of which there are some: as the program joins it. -/
def oldF (m : Nat) (L : List D) : Nat → Nat → Nat → Nat → D
  | 0, _, _, _ => z
  | f + 1, a, n, s => if a + n ≤ m ∨ m ≤ a then L.getD s z else if m ≤ a + half n then oldF m L f a (half n) s else node (val leaf node s0 z m m L [] a (half n) s) (oldF m L f (a + half n) (n - half n) (s + (steps m a (half n)).length))
def old (m : Nat) (L : List D) (a n s : Nat) : D := oldF leaf node s0 z m L n a n s
end
end Tree
