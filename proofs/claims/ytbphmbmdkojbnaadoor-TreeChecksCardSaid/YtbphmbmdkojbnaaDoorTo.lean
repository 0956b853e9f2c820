
/- dioramaref39: find, joined, Check; the lists are short. -/
import Derived.Test.YtbphmbmdkojbnaaDoorTn
set_option linter.unusedSimpArgs false
set_option linter.unusedVariables false
namespace Tree
theorem half_pow {n d : Nat} (h : 2 ≤ n) (hd : n ≤ 2 ^ (d + 1)) : half n ≤ 2 ^ d := by
  obtain ⟨e, h1, h2, _⟩ := half_spec n h
  rw [h1]
  have h3 : e < d + 1 := by
    rcases Nat.lt_or_ge e (d + 1) with h | h
    · exact h
    · have := Nat.pow_le_pow_right (show 0 < 2 by decide) h; omega
  exact Nat.pow_le_pow_right (by decide) (by omega)
theorem pow_pos' (d : Nat) (n : Nat) (h : 2 ≤ n) (hd : n ≤ 2 ^ d) : ∃ e, d = e + 1 := by
  cases d with
  | zero => simp at hd; omega
  | succ e => exact ⟨e, rfl⟩
theorem rest_left (p q : Nat) : ∀ a n, 1 ≤ n → ∀ d, n ≤ 2 ^ d → ¬ (a + n ≤ p ∨ q ≤ a) → a + n ≤ q → (rest p q a n).length ≤ d := by
  refine ind (P := fun a n => ∀ d, n ≤ 2 ^ d → ¬ (a + n ≤ p ∨ q ≤ a) → a + n ≤ q → (rest p q a n).length ≤ d) fun a n hn ih d hd h0 hq => ?_
  by_cases h : n = 1
  · subst h; rw [rest_one h0]; exact Nat.zero_le _
  · have q1 := half_lt (n := n) (by omega)
    have q2 := half_pos (n := n) (by omega)
    obtain ⟨e, rfl⟩ := pow_pos' d n (by omega) hd
    have q3 := half_pow (by omega) hd
    have q4 := half_le (n := n) (by omega)
    rw [rest_node (by omega) h0, List.length_append]
    by_cases hp : a + half n ≤ p
    · rw [rest_out q2 (.inl hp)]
      have := ih (a + half n) (n - half n) (by omega) (by omega) e (by omega) (by omega) (by omega)
      simp only [List.length_singleton]; omega
    · have := ih a (half n) q2 q1 e q3 (by omega) (by omega)
      rw [rest_in (a + half n) (n - half n) (by omega) (by omega) (by omega)]
      simp only [List.length_nil]; omega
theorem rest_right (p q : Nat) : ∀ a n, 1 ≤ n → ∀ d, n ≤ 2 ^ d → ¬ (a + n ≤ p ∨ q ≤ a) → p ≤ a → (rest p q a n).length ≤ d := by
  refine ind (P := fun a n => ∀ d, n ≤ 2 ^ d → ¬ (a + n ≤ p ∨ q ≤ a) → p ≤ a → (rest p q a n).length ≤ d) fun a n hn ih d hd h0 hq => ?_
  by_cases h : n = 1
  · subst h; rw [rest_one h0]; exact Nat.zero_le _
  · have q1 := half_lt (n := n) (by omega)
    have q2 := half_pos (n := n) (by omega)
    obtain ⟨e, rfl⟩ := pow_pos' d n (by omega) hd
    have q3 := half_pow (by omega) hd
    have q4 := half_le (n := n) (by omega)
    rw [rest_node (by omega) h0, List.length_append]
    by_cases hp : q ≤ a + half n
    · rw [rest_out (a := a + half n) (n := n - half n) (by omega) (.inr hp)]
      have := ih a (half n) q2 q1 e q3 (by omega) (by omega)
      simp only [List.length_singleton]; omega
    · have := ih (a + half n) (n - half n) (by omega) (by omega) e (by omega) (by omega) (by omega)
      rw [rest_in a (half n) q2 (by omega) (by omega)]
      simp only [List.length_nil]; omega
/-- The rest is short. -/
theorem rest_log (p q : Nat) : ∀ a n, 1 ≤ n → ∀ d, n ≤ 2 ^ d → ¬ (a + n ≤ p ∨ q ≤ a) → p < q → (rest p q a n).length ≤ 2 * d := by
  refine ind (P := fun a n => ∀ d, n ≤ 2 ^ d → ¬ (a + n ≤ p ∨ q ≤ a) → p < q → (rest p q a n).length ≤ 2 * d) fun a n hn ih d hd h0 hpq => ?_
  by_cases h : n = 1
  · subst h; rw [rest_one h0]; exact Nat.zero_le _
  · have q1 := half_lt (n := n) (by omega)
    have q2 := half_pos (n := n) (by omega)
    obtain ⟨e, rfl⟩ := pow_pos' d n (by omega) hd
    have q3 := half_pow (by omega) hd
    have q4 := half_le (n := n) (by omega)
    rw [rest_node (by omega) h0, List.length_append]
    by_cases hp : a + half n ≤ p
    · rw [rest_out q2 (.inl hp)]
      have := ih (a + half n) (n - half n) (by omega) (by omega) e (by omega) (by omega) (by omega)
      simp only [List.length_singleton]; omega
    by_cases hq : q ≤ a + half n
    · rw [rest_out (a := a + half n) (n := n - half n) (by omega) (.inr hq)]
      have := ih a (half n) q2 q1 e q3 (by omega) (by omega)
      simp only [List.length_singleton]; omega
    have h1 := rest_left p q a (half n) q2 e q3 (by omega) (by omega)
    have h2 := rest_right p q (a + half n) (n - half n) (by omega) e (by omega) (by omega) (by omega)
    omega
theorem steps_log (m : Nat) : ∀ a n, 1 ≤ n → ∀ d, n ≤ 2 ^ d → (steps m a n).length ≤ d + 1 := by
  refine ind (P := fun a n => ∀ d, n ≤ 2 ^ d → (steps m a n).length ≤ d + 1) fun a n hn ih d hd => ?_
  unfold steps at *
  by_cases h0 : a + n ≤ m ∨ m ≤ a
  · rw [rest_out hn h0]; simp only [List.length_singleton]; omega
  · have q1 := half_lt (n := n) (by omega)
    have q2 := half_pos (n := n) (by omega)
    obtain ⟨e, rfl⟩ := pow_pos' d n (by omega) hd
    have q3 := half_pow (by omega) hd
    have q4 := half_le (n := n) (by omega)
    rw [rest_node (by omega) h0, List.length_append]
    by_cases hp : a + half n ≤ m
    · rw [rest_out q2 (.inl hp)]
      have := ih (a + half n) (n - half n) (by omega) (by omega) e (by omega)
      simp only [List.length_singleton]; omega
    · rw [rest_out (a := a + half n) (n := n - half n) (by omega) (.inr (by omega))]
      have := ih a (half n) q2 q1 e q3
      simp only [List.length_singleton]; omega
theorem rest_short (p q n : Nat) (hn : 1 ≤ n) (hp : p < n) (hpq : p < q) (h : n ≤ 1073741824) : (rest p q 0 n).length ≤ 1000 := by
  have := rest_log p q 0 n hn 30 (by simpa using h) (by omega) hpq
  omega
theorem steps_short (m n : Nat) (hn : 1 ≤ n) (h : n ≤ 1073741824) : (steps m 0 n).length ≤ 1000 := by
  have := steps_log m 0 n hn 30 (by simpa using h)
  omega
end Tree
namespace Go.Proofs.YtbphmbmdkojbnaaDoor
open Go.V Go.RowKit Go.U Go.L
def optI : Option Nat → Int
  | some i => (i : Nat)
  | none => -1
theorem find_drop {R : List (Nat × Nat)} {i a b : Nat} (hi : i < R.length) : Tree.find (R.drop i) a b = if (R.getD i (0, 0)).1 = a ∧ (R.getD i (0, 0)).2 = b then some 0 else (Tree.find (R.drop (i + 1)) a b).map (· + 1) := by
  rw [List.drop_eq_getElem_cons hi, Tree.find, List.getD_eq_getElem?_getD, List.getElem?_eq_getElem hi]; rfl
theorem relA_pairsV {A : Nat → Prop} {σ : Nat → Nat} {R : List (Nat × Nat)} : RelA A σ (pairsV R) (pairsV R) := NoId.self (a := pairsV R) fun i hi j hj => trivial
set_option maxRecDepth 10000 in
theorem find_ok (R : List (Nat × Nat)) (hlen : R.length ≤ 1000000000) (a b : Nat) : Ok Tryd.prog 59 [] [] (.pair (pairsV R) (.pair (.int .i64 (a : Nat)) (.pair (.int .i64 (b : Nat)) .nul))) (fun r h' => r = .int .i64 (optI (Tree.find R a b)) ∧ h' = []) := by
  refine Ok.of_vc tt_ok Tryd.func59 rfl rfl (by show 3 ≤ _; decide) 0 (fun i av h => by cases h) fun c0 => ?_
  refine S_ ?_
  refine VC.loop (fun i : Nat => ⟨[(7, .int .i64 (i : Nat)), (2, .int .i64 (b : Nat)), (1, .int .i64 (a : Nat)), (0, pairsV R)], [], [], 0⟩) (fun i => i ≤ R.length ∧ Tree.find R a b = (Tree.find (R.drop i) a b).map (· + i)) (fun i => R.length - i) 0 ⟨Nat.zero_le _, by rw [List.drop_zero]; cases Tree.find R a b <;> rfl⟩ (by refine Sim.less [] (by rfl) ?_ ?_ <;> (repeat' (first | with_reducible refine relA_pairsV ?_ | first | exact EnvLe.nil | exact HeapLe.nil | with_reducible apply EnvLe.cons | with_reducible apply HeapLe.cons | (with_reducible refine RelA.int ?_; first | (refine Keep.mk ?_; first | with_reducible rfl | omega | decide) | skip) | exact rfl | exact ⟨rfl, rfl⟩ | (with_reducible refine RelA.rsl ?_; intro i hi) | (with_reducible refine RelA.arr ?_; intro i hi) | with_reducible refine RelA.pair ?_ ?_ | with_reducible refine RelA.rptr ?_ | (with_reducible refine RelA.rslw ?_; intro i hi) | (refine RelA.rsl ?_; intro i hi) | (refine RelA.rslw ?_; intro i hi) | (refine RelA.arr ?_; intro i hi) | refine RelA.pair ?_ ?_ | refine RelA.tup ?_ | ((first | refine RelA.rslL (by first | rfl | ((try simp only [List.length_take, List.length_drop, List.length_append, List.length_cons, List.length_nil, List.length_map, List.length_range]); omega)) ?_ | refine RelA.rslT (by first | rfl | ((try simp only [List.length_take, List.length_drop, List.length_append, List.length_cons, List.length_nil, List.length_map, List.length_range]); omega)) ?_ | refine RelA.arrL (by first | rfl | ((try simp only [List.length_take, List.length_drop, List.length_append, List.length_cons, List.length_nil, List.length_map, List.length_range]); omega)) ?_); intro i hi; (try simp (disch := omega) only [getD_take, getD_drop, Nat.zero_add, Int.toNat_natCast])) | exact RelA.bif_int | refine RelA.fn ?_ ?_)) <;> (try with_reducible refine Keep.mk ?_)) fun i hi => ?_
  obtain ⟨i1, i2⟩ := hi
  refine S_ ?_
  refine VC.cond (by rfl) (fun hb => ?_) (fun hb => ?_) <;> (try simp only [decide_eq_true_eq, decide_eq_false_iff_not, Bool.not_eq_true', Bool.not_eq_false'] at hb) <;> (try (exfalso; omega))
  · have hil : i < R.length := by omega
    rw [find_drop hil] at i2
    refine S_ ?_
    by_cases h1 : (R.getD i (0, 0)).1 = a
    · refine Seq.same 21 (u' := .bool true) (by rfl) (congrArg AV.bool (decide_eq_true (show (((R.getD i (0, 0)).1 : Nat) : Int) = (a : Int) by omega))) ?_
      refine S_ ?_
      refine VC.cond (by rfl) (fun hb2 => ?_) (fun hb2 => ?_)
      · have h2 : (((R.getD i (0, 0)).2 : Nat) : Int) = (b : Int) := of_decide_eq_true hb2
        rw [if_pos ⟨h1, by omega⟩] at i2
        clear hb2
        refine S_ ?_
        rw [i2]
        refine retQ_ok (by rfl) [] nil_sub ⟨?_, rfl⟩
        show AV.int .i64 ((i : Nat) : Int) = .int .i64 ((0 + i : Nat) : Int)
        rw [Nat.zero_add]
      · have h2 : ¬ (((R.getD i (0, 0)).2 : Nat) : Int) = (b : Int) := of_decide_eq_false hb2
        rw [if_neg (fun e => h2 (by omega))] at i2
        clear hb2
        refine S_ ?_
        refine ⟨i + 1, ⟨by omega, ?_⟩, by omega, ?_⟩
        · rw [i2]
          cases Tree.find (R.drop (i + 1)) a b with
          | none => rfl
          | some k => exact congrArg some (show k + 1 + i = k + (i + 1) by omega)
        · refine Sim.less [] (by rfl) ?_ ?_ <;> (repeat' (first | with_reducible refine relA_pairsV ?_ | first | exact EnvLe.nil | exact HeapLe.nil | with_reducible apply EnvLe.cons | with_reducible apply HeapLe.cons | (with_reducible refine RelA.int ?_; first | (refine Keep.mk ?_; first | with_reducible rfl | omega | decide) | skip) | exact rfl | exact ⟨rfl, rfl⟩ | (with_reducible refine RelA.rsl ?_; intro i hi) | (with_reducible refine RelA.arr ?_; intro i hi) | with_reducible refine RelA.pair ?_ ?_ | with_reducible refine RelA.rptr ?_ | (with_reducible refine RelA.rslw ?_; intro i hi) | (refine RelA.rsl ?_; intro i hi) | (refine RelA.rslw ?_; intro i hi) | (refine RelA.arr ?_; intro i hi) | refine RelA.pair ?_ ?_ | refine RelA.tup ?_ | ((first | refine RelA.rslL (by first | rfl | ((try simp only [List.length_take, List.length_drop, List.length_append, List.length_cons, List.length_nil, List.length_map, List.length_range]); omega)) ?_ | refine RelA.rslT (by first | rfl | ((try simp only [List.length_take, List.length_drop, List.length_append, List.length_cons, List.length_nil, List.length_map, List.length_range]); omega)) ?_ | refine RelA.arrL (by first | rfl | ((try simp only [List.length_take, List.length_drop, List.length_append, List.length_cons, List.length_nil, List.length_map, List.length_range]); omega)) ?_); intro i hi; (try simp (disch := omega) only [getD_take, getD_drop, Nat.zero_add, Int.toNat_natCast])) | exact RelA.bif_int | refine RelA.fn ?_ ?_)) <;> (try with_reducible refine Keep.mk ?_)
    · rw [if_neg (fun e => h1 e.1)] at i2
      refine Seq.same 21 (u' := .bool false) (by rfl) (congrArg AV.bool (decide_eq_false (show ¬ (((R.getD i (0, 0)).1 : Nat) : Int) = (a : Int) by omega))) ?_
      refine S_ ?_
      refine VC.cond (by rfl) (fun hb => ?_) (fun hb => ?_) <;> (try simp only [decide_eq_true_eq, decide_eq_false_iff_not, Bool.not_eq_true', Bool.not_eq_false'] at hb) <;> (try (exfalso; omega)) <;> (try (cases hb; done))
      refine S_ ?_
      refine ⟨i + 1, ⟨by omega, ?_⟩, by omega, ?_⟩
      · rw [i2]
        cases Tree.find (R.drop (i + 1)) a b with
        | none => rfl
        | some k => exact congrArg some (show k + 1 + i = k + (i + 1) by omega)
      · refine Sim.less [] (by rfl) ?_ ?_ <;> (repeat' (first | with_reducible refine relA_pairsV ?_ | first | exact EnvLe.nil | exact HeapLe.nil | with_reducible apply EnvLe.cons | with_reducible apply HeapLe.cons | (with_reducible refine RelA.int ?_; first | (refine Keep.mk ?_; first | with_reducible rfl | omega | decide) | skip) | exact rfl | exact ⟨rfl, rfl⟩ | (with_reducible refine RelA.rsl ?_; intro i hi) | (with_reducible refine RelA.arr ?_; intro i hi) | with_reducible refine RelA.pair ?_ ?_ | with_reducible refine RelA.rptr ?_ | (with_reducible refine RelA.rslw ?_; intro i hi) | (refine RelA.rsl ?_; intro i hi) | (refine RelA.rslw ?_; intro i hi) | (refine RelA.arr ?_; intro i hi) | refine RelA.pair ?_ ?_ | refine RelA.tup ?_ | ((first | refine RelA.rslL (by first | rfl | ((try simp only [List.length_take, List.length_drop, List.length_append, List.length_cons, List.length_nil, List.length_map, List.length_range]); omega)) ?_ | refine RelA.rslT (by first | rfl | ((try simp only [List.length_take, List.length_drop, List.length_append, List.length_cons, List.length_nil, List.length_map, List.length_range]); omega)) ?_ | refine RelA.arrL (by first | rfl | ((try simp only [List.length_take, List.length_drop, List.length_append, List.length_cons, List.length_nil, List.length_map, List.length_range]); omega)) ?_); intro i hi; (try simp (disch := omega) only [getD_take, getD_drop, Nat.zero_add, Int.toNat_natCast])) | exact RelA.bif_int | refine RelA.fn ?_ ?_)) <;> (try with_reducible refine Keep.mk ?_)
  · obtain rfl : i = R.length := by omega
    rw [List.drop_eq_nil_of_le (Nat.le_refl _)] at i2
    rw [i2]
    refine S_ ?_
    exact retQ_ok (by rfl) [] nil_sub ⟨rfl, rfl⟩
end Go.Proofs.YtbphmbmdkojbnaaDoor
