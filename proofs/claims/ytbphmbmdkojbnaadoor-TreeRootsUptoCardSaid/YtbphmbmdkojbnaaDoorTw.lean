
/- What Prove and Longer give is what Check and Extends ask for; law39.text. -/
import Derived.Test.YtbphmbmdkojbnaaDoorTv
set_option linter.unusedSimpArgs false
set_option linter.unusedVariables false
namespace Go.Proofs.YtbphmbmdkojbnaaDoor
open Go.V Go.RowKit Go.U Go.L
theorem rootsD_at {l : List (List UInt8)} {pre post : List (Nat × Nat)} {a b : Nat} : (rootsD l (pre ++ ((a, b) :: post))).getD pre.length zeroD = rootD l a (b - a) := by
  unfold rootsD
  rw [List.map_append, List.getD_eq_getElem?_getD, List.getElem?_append_right (by rw [List.length_map]; exact Nat.le_refl _), List.length_map, Nat.sub_self]
  rfl
theorem placed_out {p q a n s : Nat} {R : List (Nat × Nat)} {l : List (List UInt8)} (h : Tree.Placed p q a n s R) (hn : 1 ≤ n) (h0 : a + n ≤ p ∨ q ≤ a) : (rootsD l R).getD s zeroD = rootD l a n := by
  obtain ⟨pre, post, rfl, h2, _⟩ := h.split
  subst h2
  rw [Tree.rest_out hn h0]
  have := rootsD_at (l := l) (pre := pre) (post := post) (a := a) (b := a + n)
  rw [Nat.add_sub_cancel_left] at this
  exact this
theorem val_root (l : List (List UInt8)) (p q : Nat) (R : List (Nat × Nat)) (leaves : List (List UInt8)) (hlv : ∀ i, p ≤ i → i < q → leaves.getD (i - p) [] = l.getD i []) : ∀ a n, 1 ≤ n → ∀ s, Tree.Placed p q a n s R → valD p q (rootsD l R) leaves a n s = rootD l a n := by
  refine Tree.ind (P := fun a n => ∀ s, Tree.Placed p q a n s R → valD p q (rootsD l R) leaves a n s = rootD l a n) fun a n hn ih s hs => ?_
  show Tree.val leafD nodeD [] zeroD p q (rootsD l R) leaves a n s = _
  by_cases h0 : a + n ≤ p ∨ q ≤ a
  · rw [Tree.val_out (hn := hn) (h := h0)]
    exact placed_out hs hn h0
  by_cases h1 : n = 1
  · subst h1
    rw [Tree.val_one (h := h0), hlv a (by omega) (by omega)]
    exact (Tree.rootR_one leafD nodeD [] l a).symm
  have q1 := Tree.half_lt (n := n) (by omega)
  have q2 := Tree.half_pos (n := n) (by omega)
  rw [Tree.val_node (hn := by omega) (h := h0)]
  have i1 := ih a (Tree.half n) q2 q1 s (hs.left (by omega) h0)
  have i2 := ih (a + Tree.half n) (n - Tree.half n) (by omega) (by omega) _ (hs.right (by omega) h0)
  unfold valD at i1 i2
  rw [i1, i2]
  exact (Tree.rootR_node leafD nodeD [] l (by omega)).symm
theorem half_cut {n k : Nat} (hn : 2 ≤ n) (h1 : Tree.half n < k) (h2 : k ≤ n) : Tree.half k = Tree.half n := by
  obtain ⟨e, q1, q2, q3⟩ := Tree.half_spec n hn
  have := Tree.half_pos hn
  exact Tree.half_uniq (by omega) q1 h1 (by omega)
theorem old_root (l : List (List UInt8)) (m : Nat) (R : List (Nat × Nat)) : ∀ a n, 1 ≤ n → ∀ s, Tree.Placed m m a n s R → a < m → m ≤ a + n → oldD m (rootsD l R) a n s = rootD l a (m - a) := by
  refine Tree.ind (P := fun a n => ∀ s, Tree.Placed m m a n s R → a < m → m ≤ a + n → oldD m (rootsD l R) a n s = rootD l a (m - a)) fun a n hn ih s hs ha hm => ?_
  show Tree.old leafD nodeD [] zeroD m (rootsD l R) a n s = _
  by_cases h0 : a + n ≤ m ∨ m ≤ a
  · rw [Tree.old_out (hn := hn) (h := h0), show m - a = n by omega]
    exact placed_out hs hn h0
  have q1 := Tree.half_lt (n := n) (by omega)
  have q2 := Tree.half_pos (n := n) (by omega)
  rw [Tree.old_node (hn := hn) (h := h0)]
  by_cases hc : m ≤ a + Tree.half n
  · rw [if_pos hc]
    exact ih a (Tree.half n) q2 q1 s (hs.left (by omega) h0) ha hc
  · rw [if_neg hc]
    have i2 := ih (a + Tree.half n) (n - Tree.half n) (by omega) (by omega) _ (hs.right (by omega) h0) (by omega) (by omega)
    have i1 := val_root l m m R [] (fun i h1 h2 => by omega) a (Tree.half n) q2 s (hs.left (by omega) h0)
    unfold oldD at i2
    unfold valD at i1
    have hk := half_cut (n := n) (k := m - a) (by omega) (by omega) (by omega)
    have e := Tree.rootR_node leafD nodeD [] l (a := a) (n := m - a) (by omega)
    rw [hk, show m - a - Tree.half n = m - (a + Tree.half n) by omega] at e
    have i2' : Tree.old leafD nodeD [] zeroD m (rootsD l R) (a + Tree.half n) (n - Tree.half n) (s + (Tree.steps m a (Tree.half n)).length) = rootD l (a + Tree.half n) (m - (a + Tree.half n)) := i2
    rw [i1, i2']
    exact e.symm
set_option maxRecDepth 10000 in
theorem text_ok (a : List UInt8) (ha : a.length = 16) : Ok Tryd.prog 25 [] [] (.pair (digA a) .nul) (fun r h' => r = .str a ∧ h' = []) := by
  refine Ok.of_vc tt_ok Tryd.func25 rfl rfl (by show 1 ≤ _; decide) 0 (fun i av h => by cases h) fun c0 => ?_
  refine S_ ?_
  refine Seq.str a tt_ok (by rfl) (by rfl) (by rfl) (by rfl) (by rfl) (by (first | exact trivial | exact u8_in _ rfl | exact u32_in _ rfl | ((with_reducible refine AllP.guard ?_); simp only [AllP, inI, fitV, maxK, inK, inbL, inb, List.append, List.cons_append, List.nil_append, true_and, and_true]; first | done | omega))) (by rfl) (.inl rfl) (by rfl) rfl ?_ ?_ ?_
  · exact ha
  · exact fun i hi => by rw [Nat.zero_add]
  refine S_ ?_
  exact retQ_ok (by rfl) [] nil_sub ⟨rfl, rfl⟩
end Go.Proofs.YtbphmbmdkojbnaaDoor
