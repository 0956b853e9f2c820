
/- Package tree: walk over digests (the root of a part of the leaves), rootOf, Root. -/
import Derived.Test.YtbphmbmdkojbnaaDoorTb
import Derived.Test.YtbphmbmdkojbnaaDoorTc
set_option linter.unusedSimpArgs false
set_option linter.unusedVariables false
namespace Go.Proofs.YtbphmbmdkojbnaaDoor
open Go.V Go.RowKit Go.U Go.L
def tA (d : AV) (b : Bool) : AV := .tup (.pair d (.pair (.bool b) .nul))
abbrev rootD (l : List (List UInt8)) (a n : Nat) : List UInt8 := Tree.rootR leafD nodeD [] l a n
theorem rootD_length (l : List (List UInt8)) : ∀ a n, 1 ≤ n → (rootD l a n).length = 16 := by
  refine Tree.ind fun a n hn _ => ?_
  by_cases h : n = 1
  · subst h; exact digD_length _ _
  · show (Tree.rootR leafD nodeD [] l a n).length = 16
    rw [Tree.rootR_node leafD nodeD [] l (by omega)]
    exact digD_length _ _
def LOk (l : List (List UInt8)) : Prop := l.length ≤ 1099511627776 ∧ ∀ s ∈ l, s.length ≤ 10000000000
theorem LOk.get {l : List (List UInt8)} (h : LOk l) (i : Nat) : (l.getD i []).length ≤ 10000000000 := by
  rcases Nat.lt_or_ge i l.length with hi | hi
  · rw [List.getD_eq_getElem?_getD, List.getElem?_eq_getElem hi]; exact h.2 _ (List.getElem_mem hi)
  · rw [List.getD_eq_getElem?_getD, List.getElem?_eq_none hi]; simp
def fnRoot (l : List (List UInt8)) : AV := .fn (.func 55) .nul (.pair (.rptr false (strs l)) .nul)
def fnNode : AV := .fn (.func 44) .nul .nul
set_option maxRecDepth 10000 in
theorem stopRoot_no (l : List (List UInt8)) (a n : Nat) (ha : a + n ≤ 1099511627776) (hn : n ≠ 1) : Ok Tryd.prog 55 gK [] (.pair (.int .i64 (a : Nat)) (.pair (.int .i64 ((a + n : Nat) : Int)) (.pair (.rptr false (strs l)) .nul))) (fun r h' => r = tA zA false ∧ h' = []) := by
  refine Ok.of_vc tt_ok Tryd.func55 rfl rfl (by show 3 ≤ _; decide) 0 (fun i av h => by cases h) fun c0 => ?_
  refine S_ ?_
  refine VC.cond (by rfl) (fun hb => ?_) (fun hb => ?_) <;> (try simp only [decide_eq_true_eq, decide_eq_false_iff_not, Bool.not_eq_true', Bool.not_eq_false'] at hb) <;> (try (exfalso; omega))
  refine S_ ?_
  exact retQ_ok (by rfl) [] nil_sub ⟨rfl, rfl⟩
set_option maxRecDepth 10000 in
theorem stopRoot_yes (l : List (List UInt8)) (hl : LOk l) (a : Nat) (ha : a < l.length) : Ok Tryd.prog 55 gK [] (.pair (.int .i64 (a : Nat)) (.pair (.int .i64 ((a + 1 : Nat) : Int)) (.pair (.rptr false (strs l)) .nul))) (fun r h' => r = tA (digA (leafD (l.getD a []))) true ∧ h' = []) := by
  have hl1 := hl.1
  refine Ok.of_vc tt_ok Tryd.func55 rfl rfl (by show 3 ≤ _; decide) 0 (fun i av h => by cases h) fun c0 => ?_
  refine S_ ?_
  refine VC.cond (by rfl) (fun hb => ?_) (fun hb => ?_) <;> (try simp only [decide_eq_true_eq, decide_eq_false_iff_not, Bool.not_eq_true', Bool.not_eq_false'] at hb) <;> (try (exfalso; omega))
  refine S_ ?_
  refine Seq.callp false (leaf_ok (l.getD a []) (hl.get a)) Tryd.func43 gK_ok subG.refl (by rfl) (by rfl) rfl rfl rfl rfl rfl (by rfl) rfl VW_ NI_ NI_ FR_ ?_
  refine S_ ?_
  exact retQ_ok (by rfl) [] nil_sub ⟨rfl, rfl⟩
set_option maxRecDepth 10000 in
theorem walkRoot_ok (l : List (List UInt8)) (hl : LOk l) : ∀ a n, 1 ≤ n → a + n ≤ l.length → Ok Tryd.prog 40 gK [] (.pair (.int .i64 (a : Nat)) (.pair (.int .i64 ((a + n : Nat) : Int)) (.pair (fnRoot l) (.pair fnNode .nul)))) (fun r h' => r = digA (rootD l a n) ∧ h' = []) := by
  refine Tree.ind (P := fun a n => a + n ≤ l.length → _) fun a n hn ih hal => ?_
  have hl1 := hl.1
  refine Ok.of_vc tt_ok Tryd.func40 rfl rfl (by show 4 ≤ _; decide) 0 (fun i av h => by cases h) fun c0 => ?_
  by_cases h1 : n = 1
  · subst h1
    refine S_ ?_
    refine Seq.callp false (stopRoot_yes l hl a (by omega)) Tryd.func55 gK_ok subG.refl (by rfl) (by rfl) rfl rfl rfl rfl rfl (by rfl) rfl VW_ NI_ NI_ FR_ ?_
    refine S_ ?_
    refine VC.cond (by rfl) (fun hb => ?_) (fun hb => ?_) <;> (try simp only [decide_eq_true_eq, decide_eq_false_iff_not, Bool.not_eq_true', Bool.not_eq_false'] at hb) <;> (try (exfalso; omega)) <;> (try (cases hb; done))
    refine S_ ?_
    exact retQ_ok (by rfl) [] nil_sub ⟨rfl, rfl⟩
  · have q1 := Tree.half_lt (n := n) (by omega)
    have q2 := Tree.half_pos (n := n) (by omega)
    have e1 : (((a + n : Nat) : Int) - (a : Int)) = ((n : Nat) : Int) := by omega
    have i1 := ih a (Tree.half n) q2 q1 (by omega)
    have i2 := ih (a + Tree.half n) (n - Tree.half n) (by omega) (by omega) (by omega)
    have d1 := rootD_length l a (Tree.half n) q2
    have d2 := rootD_length l (a + Tree.half n) (n - Tree.half n) (by omega)
    have hr : rootD l a n = nodeD (rootD l a (Tree.half n)) (rootD l (a + Tree.half n) (n - Tree.half n)) := Tree.rootR_node leafD nodeD [] l (by omega)
    have c3 := half_ok n (by omega) (by omega)
    rw [hr]
    rw [show a + Tree.half n + (n - Tree.half n) = a + n by omega] at i2
    generalize rootD l a (Tree.half n) = X at *
    generalize rootD l (a + Tree.half n) (n - Tree.half n) = Y at *
    generalize Tree.half n = k at *
    refine S_ ?_
    refine Seq.callp false (stopRoot_no l a n (by omega) h1) Tryd.func55 gK_ok subG.refl (by rfl) (by rfl) rfl rfl rfl rfl rfl (by rfl) rfl VW_ NI_ NI_ FR_ ?_
    refine S_ ?_
    refine VC.cond (by rfl) (fun hb => ?_) (fun hb => ?_) <;> (try simp only [decide_eq_true_eq, decide_eq_false_iff_not, Bool.not_eq_true', Bool.not_eq_false'] at hb) <;> (try (exfalso; omega)) <;> (try (cases hb; done))
    refine S_ ?_
    rw [e1]
    refine Seq.callp false (c3) Tryd.func58 gK_ok subG.nil (by rfl) (by rfl) rfl rfl rfl rfl rfl (by rfl) rfl VW_ NI_ NI_ FR_ ?_
    refine S_ ?_
    refine Seq.callp false (i1) Tryd.func40 gK_ok subG.refl (by rfl) (by rfl) rfl rfl rfl rfl rfl (by rfl) rfl VW_ NI_ NI_ FR_ ?_
    refine S_ ?_
    refine VC.draw (mkP [(0, 0), (1, 0), (2, 0), (3, 0), (4, 12), (5, 0), (6, 0), (7, 0), (8, 252), (9, 511)]) [10] (by rfl) (by kernel_rfl) (by rfl) (by rfl) ?_
    refine D_ ?_
    refine DSeq.callp false (i2) Tryd.func40 gK_ok subG.refl (by rfl) (fastE (by rfl)) (fastH (by rfl)) (by rfl) (by rfl) rfl rfl rfl rfl rfl (by rfl) (by rfl) VW_ NI_ NI_ FR_ ?_
    refine D_ ?_
    refine DSeq.callp false (node_ok X Y d1 d2) Tryd.func44 gK_ok subG.refl (by rfl) (fastE (by rfl)) (fastH (by rfl)) (by rfl) (by rfl) rfl rfl rfl rfl rfl (by rfl) (by rfl) VW_ NI_ NI_ FR_ ?_
    refine D_ ?_
    refine S_ ?_
    exact retQ_ok (by rfl) [] nil_sub ⟨rfl, rfl⟩
end Go.Proofs.YtbphmbmdkojbnaaDoor
