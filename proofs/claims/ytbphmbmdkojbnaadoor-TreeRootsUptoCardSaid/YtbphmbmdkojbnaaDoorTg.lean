
/- tree.Prove: the walk, the function. -/
import Derived.Test.YtbphmbmdkojbnaaDoorTf
set_option linter.unusedSimpArgs false
set_option linter.unusedVariables false
namespace Go.Proofs.YtbphmbmdkojbnaaDoor
open Go.V Go.RowKit Go.U Go.L
def fnProve (l : List (List UInt8)) (p q : Nat) : AV := .fn (.func 33) .nul (.pair (.rptr false (.int .i64 (p : Nat))) (.pair (.rptr false (.int .i64 (q : Nat))) (.pair (.ptr 0 []) (.pair (.rptr false (strs l)) .nul))))
def fnProve2 : AV := .fn (.func 34) .nul .nul
/-- The roots of nodes. -/
def rootsD (l : List (List UInt8)) (R : List (Nat × Nat)) : List (List UInt8) := R.map fun x => rootD l x.1 (x.2 - x.1)
theorem rest_length (p q : Nat) : ∀ a n, 1 ≤ n → (Tree.rest p q a n).length ≤ n := by
  refine Tree.ind fun a n hn ih => ?_
  by_cases h0 : a + n ≤ p ∨ q ≤ a
  · rw [Tree.rest_out hn h0]; exact hn
  by_cases h : n = 1
  · subst h; rw [Tree.rest_one h0]; exact Nat.zero_le _
  · have q1 := Tree.half_lt (n := n) (by omega)
    have q2 := Tree.half_pos (n := n) (by omega)
    rw [Tree.rest_node (by omega) h0, List.length_append]
    have := ih a (Tree.half n) q2 q1
    have := ih (a + Tree.half n) (n - Tree.half n) (by omega) (by omega)
    omega
set_option maxRecDepth 10000 in
theorem walkProve_ok (l : List (List UInt8)) (hl : LOk l) (N p q : Nat) (hpq : p < q) (hq : q ≤ l.length) : ∀ a n, 1 ≤ n → a + n ≤ l.length → ∀ (D : List (List UInt8)), D.length + n ≤ 1000000000 →
    Ok Tryd.prog 32 gK (pObj N p 1 D.length D) (.pair (.int .i64 (a : Nat)) (.pair (.int .i64 ((a + n : Nat) : Int)) (.pair (fnProve l p q) (.pair fnProve2 .nul)))) (fun r h' => r = .nul ∧ h' = pObj N p 9 (D ++ rootsD l (Tree.rest p q a n)).length (D ++ rootsD l (Tree.rest p q a n))) := by
  refine Tree.ind (P := fun a n => a + n ≤ l.length → ∀ (D : List (List UInt8)), D.length + n ≤ 1000000000 → _) fun a n hn ih hal D hD => ?_
  have hl1 := hl.1
  refine Ok.of_vc tt_ok Tryd.func32 rfl rfl (by show 4 ≤ _; decide) 2 (hlt_ok (by rfl)) fun c0 => ?_
  by_cases h0 : a + n ≤ p ∨ q ≤ a
  · have c1 := stopProve_out l hl N p q a n D (by omega) hn hal h0 (by omega)
    have hR : rootsD l (Tree.rest p q a n) = [rootD l a n] := by
      rw [Tree.rest_out hn h0]
      show [rootD l a (a + n - a)] = _
      rw [Nat.add_sub_cancel_left]
    rw [hR, List.length_append]
    generalize D ++ [rootD l a n] = D1 at *
    refine S_ ?_
    refine Seq.callo false [] [(3, 9)] (tA .nul true) ([(0, proofA N p (.sl 3 [] 16 0 (D.length + 1))), (3, digsO (D.length + 1) D1)]) 4 (c1) Tryd.func33 gK_ok subG.refl (by rfl) (by rfl) rfl rfl rfl rfl rfl (by rfl) rfl (by rfl) (by rfl) (by rfl) (by rfl) VW_ NI_ R_ (noFrL_ok NI_) BK_ ?_
    refine S_ ?_
    refine VC.cond (by rfl) (fun hb => ?_) (fun hb => ?_) <;> (try simp only [decide_eq_true_eq, decide_eq_false_iff_not, Bool.not_eq_true', Bool.not_eq_false'] at hb) <;> (try (exfalso; omega)) <;> (try (cases hb; done))
    refine VC.conv (s' := ⟨[(9, .ptr 4 []), (8, .ptr 2 [])], [(4, .nul), (2, .nul), (0, proofA N p (.sl 9 [] 16 0 (D.length + 1))), (9, digsO (D.length + 1) D1)], gK, 10⟩) (by refine Sim.less [(9, 3)] (by rfl) ?_ ?_ <;> (repeat' (first | exact EnvLe.nil | exact HeapLe.nil | with_reducible apply EnvLe.cons | with_reducible apply HeapLe.cons | (with_reducible refine RelA.int ?_; first | (refine Keep.mk ?_; first | with_reducible rfl | omega | decide) | skip) | exact rfl | exact ⟨rfl, rfl⟩ | (with_reducible refine RelA.rsl ?_; intro i hi) | (with_reducible refine RelA.arr ?_; intro i hi) | with_reducible refine RelA.pair ?_ ?_ | with_reducible refine RelA.rptr ?_ | (with_reducible refine RelA.rslw ?_; intro i hi) | (refine RelA.rsl ?_; intro i hi) | (refine RelA.rslw ?_; intro i hi) | (refine RelA.arr ?_; intro i hi) | refine RelA.pair ?_ ?_ | refine RelA.tup ?_ | ((first | refine RelA.rslL (by first | rfl | ((try simp only [List.length_take, List.length_drop, List.length_append, List.length_cons, List.length_nil, List.length_map, List.length_range]); omega)) ?_ | refine RelA.rslT (by first | rfl | ((try simp only [List.length_take, List.length_drop, List.length_append, List.length_cons, List.length_nil, List.length_map, List.length_range]); omega)) ?_ | refine RelA.arrL (by first | rfl | ((try simp only [List.length_take, List.length_drop, List.length_append, List.length_cons, List.length_nil, List.length_map, List.length_range]); omega)) ?_); intro i hi; (try simp only [List.length_take, List.length_drop] at hi); (try simp (disch := omega) only [getD_take, getD_drop, Nat.zero_add, Int.toNat_natCast])) | exact RelA.bif_int | refine RelA.fn ?_ ?_)) <;> (try with_reducible refine Keep.mk ?_)) ?_
    refine S_ ?_
    exact retQ_ok (by rfl) (pObj N p 9 (D.length + 1) D1) (subL_ok ⟨rfl, rfl, trivial⟩) ⟨rfl, rfl⟩
  by_cases h1 : p ≤ a ∧ a + n ≤ q
  · have c1 := stopProve_in l N p q a n D hn h1.1 h1.2
    have hR : rootsD l (Tree.rest p q a n) = [] := by rw [Tree.rest_in a n hn h1.1 h1.2]; rfl
    rw [hR, List.append_nil]
    refine S_ ?_
    refine Seq.callo false [] [(3, 9)] (tA .nul true) ([(0, proofA N p (.sl 3 [] 16 0 D.length)), (3, digsO D.length D)]) 4 (c1) Tryd.func33 gK_ok subG.refl (by rfl) (by rfl) rfl rfl rfl rfl rfl (by rfl) rfl (by rfl) (by rfl) (by rfl) (by rfl) VW_ NI_ R_ (noFrL_ok NI_) BK_ ?_
    refine S_ ?_
    refine VC.cond (by rfl) (fun hb => ?_) (fun hb => ?_) <;> (try simp only [decide_eq_true_eq, decide_eq_false_iff_not, Bool.not_eq_true', Bool.not_eq_false'] at hb) <;> (try (exfalso; omega)) <;> (try (cases hb; done))
    refine VC.conv (s' := ⟨[(9, .ptr 4 []), (8, .ptr 2 [])], [(4, .nul), (2, .nul), (0, proofA N p (.sl 9 [] 16 0 D.length)), (9, digsO D.length D)], gK, 10⟩) (by refine Sim.less [(9, 3)] (by rfl) ?_ ?_ <;> (repeat' (first | exact EnvLe.nil | exact HeapLe.nil | with_reducible apply EnvLe.cons | with_reducible apply HeapLe.cons | (with_reducible refine RelA.int ?_; first | (refine Keep.mk ?_; first | with_reducible rfl | omega | decide) | skip) | exact rfl | exact ⟨rfl, rfl⟩ | (with_reducible refine RelA.rsl ?_; intro i hi) | (with_reducible refine RelA.arr ?_; intro i hi) | with_reducible refine RelA.pair ?_ ?_ | with_reducible refine RelA.rptr ?_ | (with_reducible refine RelA.rslw ?_; intro i hi) | (refine RelA.rsl ?_; intro i hi) | (refine RelA.rslw ?_; intro i hi) | (refine RelA.arr ?_; intro i hi) | refine RelA.pair ?_ ?_ | refine RelA.tup ?_ | ((first | refine RelA.rslL (by first | rfl | ((try simp only [List.length_take, List.length_drop, List.length_append, List.length_cons, List.length_nil, List.length_map, List.length_range]); omega)) ?_ | refine RelA.rslT (by first | rfl | ((try simp only [List.length_take, List.length_drop, List.length_append, List.length_cons, List.length_nil, List.length_map, List.length_range]); omega)) ?_ | refine RelA.arrL (by first | rfl | ((try simp only [List.length_take, List.length_drop, List.length_append, List.length_cons, List.length_nil, List.length_map, List.length_range]); omega)) ?_); intro i hi; (try simp only [List.length_take, List.length_drop] at hi); (try simp (disch := omega) only [getD_take, getD_drop, Nat.zero_add, Int.toNat_natCast])) | exact RelA.bif_int | refine RelA.fn ?_ ?_)) <;> (try with_reducible refine Keep.mk ?_)) ?_
    refine S_ ?_
    exact retQ_ok (by rfl) (pObj N p 9 D.length D) (subL_ok ⟨rfl, rfl, trivial⟩) ⟨rfl, rfl⟩
  have hn1 : n ≠ 1 := by omega
  have q1 := Tree.half_lt (n := n) (by omega)
  have q2 := Tree.half_pos (n := n) (by omega)
  have e1 : (((a + n : Nat) : Int) - (a : Int)) = ((n : Nat) : Int) := by omega
  have c1 := stopProve_no l N p q a n D hn h0 h1
  have c3 := half_ok n (by omega) (by omega)
  have r1 := rest_length p q a (Tree.half n) q2
  have i1 := ih a (Tree.half n) q2 q1 (by omega) D (by omega)
  have i2 := ih (a + Tree.half n) (n - Tree.half n) (by omega) (by omega) (by omega) (D ++ rootsD l (Tree.rest p q a (Tree.half n))) (by rw [List.length_append]; unfold rootsD; rw [List.length_map]; omega)
  have hR : D ++ rootsD l (Tree.rest p q a n) = (D ++ rootsD l (Tree.rest p q a (Tree.half n))) ++ rootsD l (Tree.rest p q (a + Tree.half n) (n - Tree.half n)) := by
    rw [Tree.rest_node (by omega) h0, List.append_assoc]
    unfold rootsD
    rw [List.map_append]
  rw [hR]
  rw [show a + Tree.half n + (n - Tree.half n) = a + n by omega] at i2
  generalize D ++ rootsD l (Tree.rest p q a (Tree.half n)) = D1 at *
  generalize D1 ++ rootsD l (Tree.rest p q (a + Tree.half n) (n - Tree.half n)) = D2 at *
  generalize Tree.half n = k at *
  refine S_ ?_
  refine Seq.callo false [] [(3, 9)] (tA .nul false) ([(0, proofA N p (.sl 3 [] 16 0 D.length)), (3, digsO D.length D)]) 4 (c1) Tryd.func33 gK_ok subG.refl (by rfl) (by rfl) rfl rfl rfl rfl rfl (by rfl) rfl (by rfl) (by rfl) (by rfl) (by rfl) VW_ NI_ R_ (noFrL_ok NI_) BK_ ?_
  refine S_ ?_
  refine VC.cond (by rfl) (fun hb => ?_) (fun hb => ?_) <;> (try simp only [decide_eq_true_eq, decide_eq_false_iff_not, Bool.not_eq_true', Bool.not_eq_false'] at hb) <;> (try (exfalso; omega)) <;> (try (cases hb; done))
  refine S_ ?_
  rw [e1]
  refine Seq.callp false (c3) Tryd.func58 gK_ok subG.nil (by rfl) (by rfl) rfl rfl rfl rfl rfl (by rfl) rfl VW_ NI_ NI_ FR_ ?_
  refine S_ ?_
  refine Seq.callo false [(1, 3)] [(5, 9)] (.nul) ([(0, proofA N p (.sl 5 [] 16 0 D1.length)), (5, digsO D1.length D1)]) 6 (i1) Tryd.func32 gK_ok subG.refl (by rfl) (by rfl) rfl rfl rfl rfl rfl (by rfl) rfl (by rfl) (by rfl) (by rfl) (by rfl) VW_ NI_ R_ (noFrL_ok NI_) BK_ ?_
  refine S_ ?_
  refine VC.drawM (mkP [(0, 0), (1, 0), (2, 0), (3, 0), (4, 12), (5, 0), (6, 0), (7, 0), (8, 252), (9, 511)]) [10] [0, 5] (by rfl) (by kernel_rfl) (by rfl) (by rfl) (by rfl) (by rfl) ?_
  refine D_ ?_
  refine DSeq.callo false [(1, 5)] [(7, 9)] (.nul) ([(0, proofA N p (.sl 7 [] 16 0 D2.length)), (7, digsO D2.length D2)]) 8 (i2) Tryd.func32 gK_ok subG.refl (by rfl) (fastE (by rfl)) (fastH (by rfl)) (by rfl) (by rfl) (by rfl) rfl rfl rfl rfl rfl (by rfl) (by rfl) (by rfl) (by rfl) (by rfl) VW_ NI_ R_ (noFrL_ok NI_) BK_ ?_
  refine D_ ?_
  refine DSeq.callp false (joinProve_ok) Tryd.func34 gK_ok subG.refl (by rfl) (fastE (by rfl)) (fastH (by rfl)) (by rfl) (by rfl) rfl rfl rfl rfl rfl (by rfl) (by rfl) VW_ NI_ NI_ FR_ ?_
  refine D_ ?_
  refine SQ_ ?_
  refine Seq.conv (s' := ⟨[(8, .ptr 2 [])], [(2, .nul), (0, proofA N p (.sl 9 [] 16 0 D2.length)), (9, digsO D2.length D2)], gK, 10⟩) (by refine Sim.less [(9, 7)] (by rfl) ?_ ?_ <;> (repeat' (first | exact EnvLe.nil | exact HeapLe.nil | with_reducible apply EnvLe.cons | with_reducible apply HeapLe.cons | (with_reducible refine RelA.int ?_; first | (refine Keep.mk ?_; first | with_reducible rfl | omega | decide) | skip) | exact rfl | exact ⟨rfl, rfl⟩ | (with_reducible refine RelA.rsl ?_; intro i hi) | (with_reducible refine RelA.arr ?_; intro i hi) | with_reducible refine RelA.pair ?_ ?_ | with_reducible refine RelA.rptr ?_ | (with_reducible refine RelA.rslw ?_; intro i hi) | (refine RelA.rsl ?_; intro i hi) | (refine RelA.rslw ?_; intro i hi) | (refine RelA.arr ?_; intro i hi) | refine RelA.pair ?_ ?_ | refine RelA.tup ?_ | ((first | refine RelA.rslL (by first | rfl | ((try simp only [List.length_take, List.length_drop, List.length_append, List.length_cons, List.length_nil, List.length_map, List.length_range]); omega)) ?_ | refine RelA.rslT (by first | rfl | ((try simp only [List.length_take, List.length_drop, List.length_append, List.length_cons, List.length_nil, List.length_map, List.length_range]); omega)) ?_ | refine RelA.arrL (by first | rfl | ((try simp only [List.length_take, List.length_drop, List.length_append, List.length_cons, List.length_nil, List.length_map, List.length_range]); omega)) ?_); intro i hi; (try simp only [List.length_take, List.length_drop] at hi); (try simp (disch := omega) only [getD_take, getD_drop, Nat.zero_add, Int.toNat_natCast])) | exact RelA.bif_int | refine RelA.fn ?_ ?_)) <;> (try with_reducible refine Keep.mk ?_)) ?_
  refine S_ ?_
  exact retQ_ok (by rfl) (pObj N p 9 D2.length D2) (subL_ok ⟨rfl, rfl, trivial⟩) ⟨rfl, rfl⟩
end Go.Proofs.YtbphmbmdkojbnaaDoor
