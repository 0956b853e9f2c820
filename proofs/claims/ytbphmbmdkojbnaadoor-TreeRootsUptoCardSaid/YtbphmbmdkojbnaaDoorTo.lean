
/- dioramaref39: find, joined, Check; the lists are short. -/
import Derived.Test.YtbphmbmdkojbnaaDoorTn
set_option linter.unusedSimpArgs false
set_option linter.unusedVariables false
namespace Tree
theorem half_pow {n d : Nat} (h : 2 ≤ n) (hd : n ≤ 2 ^ (d + 1)) : half n ≤ 2 ^ d := by
  obtain ⟨e, h1, h2, _⟩ := half_spec n h
  rw [h1]
  have h3 : e < d + 1 := by
    rcases Nat.lt_or_ge e (d + 1) with h | h
    · exact h
    · have := Nat.pow_le_pow_right (show 0 < 2 by decide) h; omega
  exact Nat.pow_le_pow_right (by decide) (by omega)
theorem pow_pos' (d : Nat) (n : Nat) (h : 2 ≤ n) (hd : n ≤ 2 ^ d) : ∃ e, d = e + 1 := by
  cases d with
  | zero => simp at hd; omega
  | succ e => exact ⟨e, rfl⟩
theorem rest_left (p q : Nat) : ∀ a n, 1 ≤ n → ∀ d, n ≤ 2 ^ d → ¬ (a + n ≤ p ∨ q ≤ a) → a + n ≤ q → (rest p q a n).length ≤ d := by
  refine ind (P := fun a n => ∀ d, n ≤ 2 ^ d → ¬ (a + n ≤ p ∨ q ≤ a) → a + n ≤ q → (rest p q a n).length ≤ d) fun a n hn ih d hd h0 hq => ?_
  by_cases h : n = 1
  · subst h; rw [rest_one h0]; exact Nat.zero_le _
  · have q1 := half_lt (n := n) (by omega)
    have q2 := half_pos (n := n) (by omega)
    obtain ⟨e, rfl⟩ := pow_pos' d n (by omega) hd
    have q3 := half_pow (by omega) hd
    have q4 := half_le (n := n) (by omega)
    rw [rest_node (by omega) h0, List.length_append]
    by_cases hp : a + half n ≤ p
    · rw [rest_out q2 (.inl hp)]
      have := ih (a + half n) (n - half n) (by omega) (by omega) e (by omega) (by omega) (by omega)
      simp only [List.length_singleton]; omega
    · have := ih a (half n) q2 q1 e q3 (by omega) (by omega)
      rw [rest_in (a + half n) (n - half n) (by omega) (by omega) (by omega)]
      simp only [List.length_nil]; omega
theorem rest_right (p q : Nat) : ∀ a n, 1 ≤ n → ∀ d, n ≤ 2 ^ d → ¬ (a + n ≤ p ∨ q ≤ a) → p ≤ a → (rest p q a n).length ≤ d := by
  refine ind (P := fun a n => ∀ d, n ≤ 2 ^ d → ¬ (a + n ≤ p ∨ q ≤ a) → p ≤ a → (rest p q a n).length ≤ d) fun a n hn ih d hd h0 hq => ?_
  by_cases h : n = 1
  · subst h; rw [rest_one h0]; exact Nat.zero_le _
  · have q1 := half_lt (n := n) (by omega)
    have q2 := half_pos (n := n) (by omega)
    obtain ⟨e, rfl⟩ := pow_pos' d n (by omega) hd
    have q3 := half_pow (by omega) hd
    have q4 := half_le (n := n) (by omega)
    rw [rest_node (by omega) h0, List.length_append]
    by_cases hp : q ≤ a + half n
    · rw [rest_out (a := a + half n) (n := n - half n) (by omega) (.inr hp)]
      have := ih a (half n) q2 q1 e q3 (by omega) (by omega)
      simp only [List.length_singleton]; omega
    · have := ih (a + half n) (n - half n) (by omega) (by omega) e (by omega) (by omega) (by omega)
      rw [rest_in a (half n) q2 (by omega) (by omega)]
      simp only [List.length_nil]; omega
/-- The rest is short. -/
theorem rest_log (p q : Nat) : ∀ a n, 1 ≤ n → ∀ d, n ≤ 2 ^ d → ¬ (a + n ≤ p ∨ q ≤ a) → p < q → (rest p q a n).length ≤ 2 * d := by
  refine ind (P := fun a n => ∀ d, n ≤ 2 ^ d → ¬ (a + n ≤ p ∨ q ≤ a) → p < q → (rest p q a n).length ≤ 2 * d) fun a n hn ih d hd h0 hpq => ?_
  by_cases h : n = 1
  · subst h; rw [rest_one h0]; exact Nat.zero_le _
  · have q1 := half_lt (n := n) (by omega)
    have q2 := half_pos (n := n) (by omega)
    obtain ⟨e, rfl⟩ := pow_pos' d n (by omega) hd
    have q3 := half_pow (by omega) hd
    have q4 := half_le (n := n) (by omega)
    rw [rest_node (by omega) h0, List.length_append]
    by_cases hp : a + half n ≤ p
    · rw [rest_out q2 (.inl hp)]
      have := ih (a + half n) (n - half n) (by omega) (by omega) e (by omega) (by omega) (by omega)
      simp only [List.length_singleton]; omega
    by_cases hq : q ≤ a + half n
    · rw [rest_out (a := a + half n) (n := n - half n) (by omega) (.inr hq)]
      have := ih a (half n) q2 q1 e q3 (by omega) (by omega)
      simp only [List.length_singleton]; omega
    have h1 := rest_left p q a (half n) q2 e q3 (by omega) (by omega)
    have h2 := rest_right p q (a + half n) (n - half n) (by omega) e (by omega) (by omega) (by omega)
    omega
theorem steps_log (m : Nat) : ∀ a n, 1 ≤ n → ∀ d, n ≤ 2 ^ d → (steps m a n).length ≤ d + 1 := by
  refine ind (P := fun a n => ∀ d, n ≤ 2 ^ d → (steps m a n).length ≤ d + 1) fun a n hn ih d hd => ?_
  unfold steps at *
  by_cases h0 : a + n ≤ m ∨ m ≤ a
  · rw [rest_out hn h0]; simp only [List.length_singleton]; omega
  · have q1 := half_lt (n := n) (by omega)
    have q2 := half_pos (n := n) (by omega)
    obtain ⟨e, rfl⟩ := pow_pos' d n (by omega) hd
    have q3 := half_pow (by omega) hd
    have q4 := half_le (n := n) (by omega)
    rw [rest_node (by omega) h0, List.length_append]
    by_cases hp : a + half n ≤ m
    · rw [rest_out q2 (.inl hp)]
      have := ih (a + half n) (n - half n) (by omega) (by omega) e (by omega)
      simp only [List.length_singleton]; omega
    · rw [rest_out (a := a + half n) (n := n - half n) (by omega) (.inr (by omega))]
      have := ih a (half n) q2 q1 e q3
      simp only [List.length_singleton]; omega
theorem rest_short (p q n : Nat) (hn : 1 ≤ n) (hp : p < n) (hpq : p < q) (h : n ≤ 1073741824) : (rest p q 0 n).length ≤ 1000 := by
  have := rest_log p q 0 n hn 30 (by simpa using h) (by omega) hpq
  omega
end Tree
namespace Go.Proofs.YtbphmbmdkojbnaaDoor
open Go.V Go.RowKit Go.U Go.L
end Go.Proofs.YtbphmbmdkojbnaaDoor
