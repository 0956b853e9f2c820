
/- tree.Check. -/
import Derived.Test.YtbphmbmdkojbnaaDoorTm
set_option linter.unusedSimpArgs false
set_option linter.unusedVariables false
namespace Go.Proofs.YtbphmbmdkojbnaaDoor
open Go.V Go.RowKit Go.U Go.L
set_option maxRecDepth 10000 in
theorem all_ok (L : List (List UInt8)) (hL : DOk L) (k : Nat) : Ok Tryd.prog 45 [] [(0, takerA L k)] (.pair (.ptr 0 []) .nul) (fun r h' => r = .bool (decide (k = L.length)) ∧ h' = [(0, takerA L k)]) := by
  have hL1 := hL.1
  have hq : decide (k = L.length) = true ↔ ∀ i, i < 2 → (bif Nat.beq i 0 then ((min k L.length : Nat) : Int) else ((k : Nat) : Int)) = (bif Nat.beq i 1 then ((L.length : Nat) : Int) else bif Nat.beq i 0 then ((L.length : Nat) : Int) else 0) := by
    rw [decide_eq_true_eq]
    constructor
    · intro e i hi
      rcases (by omega : i = 0 ∨ i = 1) with rfl | rfl
      · show ((min k L.length : Nat) : Int) = ((L.length : Nat) : Int)
        omega
      · show ((k : Nat) : Int) = ((L.length : Nat) : Int)
        omega
    · intro h
      have h1 : ((k : Nat) : Int) = ((L.length : Nat) : Int) := h 1 (by decide)
      omega
  refine Ok.of_vc tt_ok Tryd.func45 rfl rfl (by show 1 ≤ _; decide) 1 (hlt_ok (by rfl)) fun c0 => ?_
  refine S_ ?_
  refine VC.draw (mkP [(0, 0), (1, 1), (2, 3), (3, 7), (4, 0), (5, 16), (6, 48), (7, 112), (8, 240), (9, 0), (10, 512), (11, 1536), (12, 3584), (13, 7680), (14, 16368), (15, 32767), (16, 65535)]) [] (by rfl) (by kernel_rfl) (by rfl) (by rfl) ?_
  refine D_ ?_
  refine DSeq.eqarrf (decide (k = L.length)) (fun i => bif Nat.beq i 0 then ((min k L.length : Nat) : Int) else ((k : Nat) : Int)) (fun i => bif Nat.beq i 1 then ((L.length : Nat) : Int) else bif Nat.beq i 0 then ((L.length : Nat) : Int) else 0) tt_ok (by rfl) (fastE (by rfl)) (fastH (by rfl)) (by rfl) (by rfl) (by rfl) (by kernel_rfl) (by rfl) (by rfl) (by rfl) hq (by rfl) ?_ ?_ ?_ 
  · intro i; cases Nat.beq i 0 <;> rfl
  · intro i
    rcases Nat.lt_or_ge i 2 with hi | hi
    · rcases (by omega : i = 0 ∨ i = 1) with rfl | rfl <;> rfl
    · obtain ⟨j, rfl⟩ : ∃ j, i = j + 2 := ⟨i - 2, by omega⟩
      rfl
  refine D_ ?_
  refine S_ ?_
  exact retQ_ok (by rfl) [(0, takerA L k)] (subL_ok ⟨rfl, trivial⟩) ⟨rfl, rfl⟩
def argsK (root : List UInt8) (n p : Int) (L leaves : List (List UInt8)) : AV := .pair (digA root) (.pair (proofV n p L) (.pair (strs leaves) .nul))
set_option maxRecDepth 10000 in
theorem check_no (root : List UInt8) (n p : Int) (L leaves : List (List UInt8)) (hl : leaves.length ≤ 1000000000) (hL : L.length ≤ 1000000000) (h : leaves.length = 0 ∨ n < 1 ∨ 1073741824 < n ∨ p < 0 ∨ n - leaves.length < p) :
    Ok Tryd.prog 20 gK [] (argsK root n p L leaves) (fun r h' => r = .int .i64 1 ∧ h' = []) := by
  refine Ok.of_vc tt_ok Tryd.func20 rfl rfl (by show 3 ≤ _; decide) 0 (fun i av h => by cases h) fun c0 => ?_
  refine S_ ?_
  refine Seq.join (X := Unit) (fun _ => ⟨[(37, .bool true)], [], gK, 0⟩) (fun _ => True) ?_ fun _ _ => ?_
  · by_cases h1 : leaves.length = 0
    · refine Seq.same 13 (u' := .bool true) (by rfl) (congrArg AV.bool (decide_eq_true (by omega))) ?_
      refine S_ ?_
      refine ⟨(), trivial, ?_⟩
      refine Sim.less [] (by rfl) ?_ ?_ <;> (repeat' (first | exact EnvLe.nil | exact HeapLe.nil | with_reducible apply EnvLe.cons | with_reducible apply HeapLe.cons | (with_reducible refine RelA.int ?_; first | (refine Keep.mk ?_; first | with_reducible rfl | omega | decide) | skip) | exact rfl | exact ⟨rfl, rfl⟩ | (with_reducible refine RelA.rsl ?_; intro i hi) | (with_reducible refine RelA.arr ?_; intro i hi) | with_reducible refine RelA.pair ?_ ?_ | with_reducible refine RelA.rptr ?_ | (with_reducible refine RelA.rslw ?_; intro i hi) | (refine RelA.rsl ?_; intro i hi) | (refine RelA.rslw ?_; intro i hi) | (refine RelA.arr ?_; intro i hi) | refine RelA.pair ?_ ?_ | refine RelA.tup ?_ | ((first | refine RelA.rslL (by first | rfl | ((try simp only [List.length_take, List.length_drop, List.length_append, List.length_cons, List.length_nil, List.length_map, List.length_range]); omega)) ?_ | refine RelA.rslT (by first | rfl | ((try simp only [List.length_take, List.length_drop, List.length_append, List.length_cons, List.length_nil, List.length_map, List.length_range]); omega)) ?_ | refine RelA.arrL (by first | rfl | ((try simp only [List.length_take, List.length_drop, List.length_append, List.length_cons, List.length_nil, List.length_map, List.length_range]); omega)) ?_); intro i hi; (try simp only [List.length_take, List.length_drop] at hi); (try simp (disch := omega) only [getD_take, getD_drop, Nat.zero_add, Int.toNat_natCast])) | exact RelA.bif_int | refine RelA.fn ?_ ?_)) <;> (try with_reducible refine Keep.mk ?_)
    refine Seq.same 13 (u' := .bool false) (by rfl) (congrArg AV.bool (decide_eq_false (by omega))) ?_
    refine S_ ?_
    by_cases h2 : n < 1
    · refine Seq.same 18 (u' := .bool true) (by rfl) (congrArg AV.bool (decide_eq_true (by omega))) ?_
      refine S_ ?_
      refine ⟨(), trivial, ?_⟩
      refine Sim.less [] (by rfl) ?_ ?_ <;> (repeat' (first | exact EnvLe.nil | exact HeapLe.nil | with_reducible apply EnvLe.cons | with_reducible apply HeapLe.cons | (with_reducible refine RelA.int ?_; first | (refine Keep.mk ?_; first | with_reducible rfl | omega | decide) | skip) | exact rfl | exact ⟨rfl, rfl⟩ | (with_reducible refine RelA.rsl ?_; intro i hi) | (with_reducible refine RelA.arr ?_; intro i hi) | with_reducible refine RelA.pair ?_ ?_ | with_reducible refine RelA.rptr ?_ | (with_reducible refine RelA.rslw ?_; intro i hi) | (refine RelA.rsl ?_; intro i hi) | (refine RelA.rslw ?_; intro i hi) | (refine RelA.arr ?_; intro i hi) | refine RelA.pair ?_ ?_ | refine RelA.tup ?_ | ((first | refine RelA.rslL (by first | rfl | ((try simp only [List.length_take, List.length_drop, List.length_append, List.length_cons, List.length_nil, List.length_map, List.length_range]); omega)) ?_ | refine RelA.rslT (by first | rfl | ((try simp only [List.length_take, List.length_drop, List.length_append, List.length_cons, List.length_nil, List.length_map, List.length_range]); omega)) ?_ | refine RelA.arrL (by first | rfl | ((try simp only [List.length_take, List.length_drop, List.length_append, List.length_cons, List.length_nil, List.length_map, List.length_range]); omega)) ?_); intro i hi; (try simp only [List.length_take, List.length_drop] at hi); (try simp (disch := omega) only [getD_take, getD_drop, Nat.zero_add, Int.toNat_natCast])) | exact RelA.bif_int | refine RelA.fn ?_ ?_)) <;> (try with_reducible refine Keep.mk ?_)
    refine Seq.same 18 (u' := .bool false) (by rfl) (congrArg AV.bool (decide_eq_false (by omega))) ?_
    refine S_ ?_
    by_cases h3 : 1073741824 < n
    · refine Seq.same 23 (u' := .bool true) (by rfl) (congrArg AV.bool (decide_eq_true (by omega))) ?_
      refine S_ ?_
      refine ⟨(), trivial, ?_⟩
      refine Sim.less [] (by rfl) ?_ ?_ <;> (repeat' (first | exact EnvLe.nil | exact HeapLe.nil | with_reducible apply EnvLe.cons | with_reducible apply HeapLe.cons | (with_reducible refine RelA.int ?_; first | (refine Keep.mk ?_; first | with_reducible rfl | omega | decide) | skip) | exact rfl | exact ⟨rfl, rfl⟩ | (with_reducible refine RelA.rsl ?_; intro i hi) | (with_reducible refine RelA.arr ?_; intro i hi) | with_reducible refine RelA.pair ?_ ?_ | with_reducible refine RelA.rptr ?_ | (with_reducible refine RelA.rslw ?_; intro i hi) | (refine RelA.rsl ?_; intro i hi) | (refine RelA.rslw ?_; intro i hi) | (refine RelA.arr ?_; intro i hi) | refine RelA.pair ?_ ?_ | refine RelA.tup ?_ | ((first | refine RelA.rslL (by first | rfl | ((try simp only [List.length_take, List.length_drop, List.length_append, List.length_cons, List.length_nil, List.length_map, List.length_range]); omega)) ?_ | refine RelA.rslT (by first | rfl | ((try simp only [List.length_take, List.length_drop, List.length_append, List.length_cons, List.length_nil, List.length_map, List.length_range]); omega)) ?_ | refine RelA.arrL (by first | rfl | ((try simp only [List.length_take, List.length_drop, List.length_append, List.length_cons, List.length_nil, List.length_map, List.length_range]); omega)) ?_); intro i hi; (try simp only [List.length_take, List.length_drop] at hi); (try simp (disch := omega) only [getD_take, getD_drop, Nat.zero_add, Int.toNat_natCast])) | exact RelA.bif_int | refine RelA.fn ?_ ?_)) <;> (try with_reducible refine Keep.mk ?_)
    refine Seq.same 23 (u' := .bool false) (by rfl) (congrArg AV.bool (decide_eq_false (by omega))) ?_
    refine S_ ?_
    by_cases h4 : p < 0
    · refine Seq.same 28 (u' := .bool true) (by rfl) (congrArg AV.bool (decide_eq_true (by omega))) ?_
      refine S_ ?_
      refine ⟨(), trivial, ?_⟩
      refine Sim.less [] (by rfl) ?_ ?_ <;> (repeat' (first | exact EnvLe.nil | exact HeapLe.nil | with_reducible apply EnvLe.cons | with_reducible apply HeapLe.cons | (with_reducible refine RelA.int ?_; first | (refine Keep.mk ?_; first | with_reducible rfl | omega | decide) | skip) | exact rfl | exact ⟨rfl, rfl⟩ | (with_reducible refine RelA.rsl ?_; intro i hi) | (with_reducible refine RelA.arr ?_; intro i hi) | with_reducible refine RelA.pair ?_ ?_ | with_reducible refine RelA.rptr ?_ | (with_reducible refine RelA.rslw ?_; intro i hi) | (refine RelA.rsl ?_; intro i hi) | (refine RelA.rslw ?_; intro i hi) | (refine RelA.arr ?_; intro i hi) | refine RelA.pair ?_ ?_ | refine RelA.tup ?_ | ((first | refine RelA.rslL (by first | rfl | ((try simp only [List.length_take, List.length_drop, List.length_append, List.length_cons, List.length_nil, List.length_map, List.length_range]); omega)) ?_ | refine RelA.rslT (by first | rfl | ((try simp only [List.length_take, List.length_drop, List.length_append, List.length_cons, List.length_nil, List.length_map, List.length_range]); omega)) ?_ | refine RelA.arrL (by first | rfl | ((try simp only [List.length_take, List.length_drop, List.length_append, List.length_cons, List.length_nil, List.length_map, List.length_range]); omega)) ?_); intro i hi; (try simp only [List.length_take, List.length_drop] at hi); (try simp (disch := omega) only [getD_take, getD_drop, Nat.zero_add, Int.toNat_natCast])) | exact RelA.bif_int | refine RelA.fn ?_ ?_)) <;> (try with_reducible refine Keep.mk ?_)
    refine Seq.same 28 (u' := .bool false) (by rfl) (congrArg AV.bool (decide_eq_false (by omega))) ?_
    refine S_ ?_
    refine ⟨(), trivial, ?_⟩
    rw [decide_eq_true (show n - leaves.length < p by omega)]
    refine Sim.less [] (by rfl) ?_ ?_ <;> (repeat' (first | exact EnvLe.nil | exact HeapLe.nil | with_reducible apply EnvLe.cons | with_reducible apply HeapLe.cons | (with_reducible refine RelA.int ?_; first | (refine Keep.mk ?_; first | with_reducible rfl | omega | decide) | skip) | exact rfl | exact ⟨rfl, rfl⟩ | (with_reducible refine RelA.rsl ?_; intro i hi) | (with_reducible refine RelA.arr ?_; intro i hi) | with_reducible refine RelA.pair ?_ ?_ | with_reducible refine RelA.rptr ?_ | (with_reducible refine RelA.rslw ?_; intro i hi) | (refine RelA.rsl ?_; intro i hi) | (refine RelA.rslw ?_; intro i hi) | (refine RelA.arr ?_; intro i hi) | refine RelA.pair ?_ ?_ | refine RelA.tup ?_ | ((first | refine RelA.rslL (by first | rfl | ((try simp only [List.length_take, List.length_drop, List.length_append, List.length_cons, List.length_nil, List.length_map, List.length_range]); omega)) ?_ | refine RelA.rslT (by first | rfl | ((try simp only [List.length_take, List.length_drop, List.length_append, List.length_cons, List.length_nil, List.length_map, List.length_range]); omega)) ?_ | refine RelA.arrL (by first | rfl | ((try simp only [List.length_take, List.length_drop, List.length_append, List.length_cons, List.length_nil, List.length_map, List.length_range]); omega)) ?_); intro i hi; (try simp only [List.length_take, List.length_drop] at hi); (try simp (disch := omega) only [getD_take, getD_drop, Nat.zero_add, Int.toNat_natCast])) | exact RelA.bif_int | refine RelA.fn ?_ ?_)) <;> (try with_reducible refine Keep.mk ?_)
  refine S_ ?_
  refine VC.cond (by rfl) (fun hb => ?_) (fun hb => ?_) <;> (try simp only [decide_eq_true_eq, decide_eq_false_iff_not, Bool.not_eq_true', Bool.not_eq_false'] at hb) <;> (try (exfalso; omega)) <;> (try (cases hb; done))
  refine S_ ?_
  exact retQ_ok (by rfl) [] nil_sub ⟨rfl, rfl⟩
def fnAt (i : Nat) (n0 : Int) (p q : Nat) (L leaves : List (List UInt8)) : AV := .fn (.func 41) .nul (.pair (.rptr false (proofV n0 p L)) (.pair (.rptr false (.int .i64 (q : Nat))) (.pair (.rptr false (.ptr i [])) (.pair (.rptr false (strs leaves)) .nul))))
set_option maxRecDepth 10000 in
theorem check_yes (root : List UInt8) (hr : root.length = 16) (n p : Nat) (L leaves : List (List UInt8)) (hl : LOk leaves) (hl2 : leaves.length ≤ 1000000000) (hL : DOk L) (h1 : leaves.length ≠ 0) (h2 : 1 ≤ n) (h3 : n ≤ 1073741824) (h4 : p + leaves.length ≤ n) (X : List UInt8) (k : Nat) (hX : X = valD p (p + leaves.length) L leaves 0 n 0) (hk : k = (Tree.rest p (p + leaves.length) 0 n).length) :
    Ok Tryd.prog 20 gK [] (argsK root n p L leaves) (fun r h' => r = .int .i64 (if k = L.length ∧ X = root then 0 else 15) ∧ h' = []) := by
  have hL1 := hL.1
  have c1 := walkCheck_ok n p (p + leaves.length) L leaves hL hl (by omega) 0 n (by omega) (by omega) 0 (by omega)
  rw [Nat.zero_add, Nat.zero_add, ← hX, ← hk] at c1
  have c2 := all_ok L hL k
  have hX2 : X.length = 16 := by rw [hX]; exact valD_length _ _ _ _ hL _ _ _ (by omega)
  clear hX hk
  refine Ok.of_vc tt_ok Tryd.func20 rfl rfl (by show 3 ≤ _; decide) 0 (fun i av h => by cases h) fun c0 => ?_
  refine S_ ?_
  refine Seq.same 13 (u' := .bool false) (by rfl) (congrArg AV.bool (decide_eq_false (by omega))) ?_
  refine S_ ?_
  refine Seq.same 18 (u' := .bool false) (by rfl) (congrArg AV.bool (decide_eq_false (by omega))) ?_
  refine S_ ?_
  refine Seq.same 23 (u' := .bool false) (by rfl) (congrArg AV.bool (decide_eq_false (by omega))) ?_
  refine S_ ?_
  refine VC.cond (by rfl) (fun hb => ?_) (fun hb => ?_) <;> (try simp only [decide_eq_true_eq, decide_eq_false_iff_not, Bool.not_eq_true', Bool.not_eq_false'] at hb) <;> (try (exfalso; omega))
  refine S_ ?_
  refine Seq.conv (s' := ⟨[(49, .fn (.func 41) .nul (.pair (.ptr 1 []) (.pair (.ptr 3 []) (.pair (.ptr 5 []) (.pair (.ptr 2 []) .nul))))), (48, .int .i64 n), (8, .ptr 5 []), (3, .ptr 0 [])], [(0, digA root), (1, proofV n p L), (2, strs leaves), (3, .int .i64 ((p + leaves.length : Nat) : Int)), (4, takerA L 0), (5, .ptr 4 [])], gK, 6⟩) (by
    refine Sim.less [] (by rfl) ?_ ?_ <;> (repeat' (first | exact EnvLe.nil | exact HeapLe.nil | with_reducible apply EnvLe.cons | with_reducible apply HeapLe.cons | (with_reducible refine RelA.int ?_; first | (refine Keep.mk ?_; first | with_reducible rfl | omega | decide) | skip) | exact rfl | exact ⟨rfl, rfl⟩ | (with_reducible refine RelA.rsl ?_; intro i hi) | (with_reducible refine RelA.arr ?_; intro i hi) | with_reducible refine RelA.pair ?_ ?_ | with_reducible refine RelA.rptr ?_ | (with_reducible refine RelA.rslw ?_; intro i hi) | (refine RelA.rsl ?_; intro i hi) | (refine RelA.rslw ?_; intro i hi) | (refine RelA.arr ?_; intro i hi) | refine RelA.pair ?_ ?_ | refine RelA.tup ?_ | ((first | refine RelA.rslL (by first | rfl | ((try simp only [List.length_take, List.length_drop, List.length_append, List.length_cons, List.length_nil, List.length_map, List.length_range]); omega)) ?_ | refine RelA.rslT (by first | rfl | ((try simp only [List.length_take, List.length_drop, List.length_append, List.length_cons, List.length_nil, List.length_map, List.length_range]); omega)) ?_ | refine RelA.arrL (by first | rfl | ((try simp only [List.length_take, List.length_drop, List.length_append, List.length_cons, List.length_nil, List.length_map, List.length_range]); omega)) ?_); intro i hi; (try simp only [List.length_take, List.length_drop] at hi); (try simp (disch := omega) only [getD_take, getD_drop, Nat.zero_add, Int.toNat_natCast])) | exact RelA.bif_int | refine RelA.fn ?_ ?_)) <;> (try with_reducible refine Keep.mk ?_)
    all_goals (try (rcases (by omega : i = 0 ∨ i = 1) with rfl | rfl))
    all_goals (try exact rfl)
    all_goals (try (show RelA _ _ (.int _ _) (.int _ _)))) ?_
  refine Seq.conv (Sim.still (e' := [(49, fnAt 4 n p (p + leaves.length) L leaves), (48, .int .i64 n), (8, .rptr false (.ptr 4 [])), (3, .ptr 0 [])]) (h' := [(4, takerA L 0), (0, digA root)]) [1, 2, 3, 5] (by repeat' (first | exact trivial | refine ⟨by rfl, ?_⟩)) (by rfl) (by repeat' (first | exact EnvV.nil | refine EnvV.cons (by rfl) VW_ NI_ ?_))) ?_ 
  refine Seq.callo false [(0, 4)] [(4, 0)] (digA X) ([(4, takerA L k)]) 6 (c1) Tryd.func40 gK_ok subG.refl (by rfl) (by rfl) rfl rfl rfl rfl rfl (by rfl) rfl (by rfl) (by rfl) (by rfl) (by rfl) VW_ NI_ R_ (noFrL_ok NI_) BK_ ?_
  refine S_ ?_
  refine Seq.callo false [(0, 4)] [(4, 0)] (.bool (decide (k = L.length))) ([(4, takerA L k)]) 7 (c2) Tryd.func45 gK_ok subG.nil (by rfl) (by rfl) rfl rfl rfl rfl rfl (by rfl) rfl (by rfl) (by rfl) (by rfl) (by rfl) VW_ NI_ R_ (noFrL_ok NI_) BK_ ?_
  refine S_ ?_
  by_cases hkL : k = L.length
  · refine Seq.same 54 (u' := .bool false) (by rfl) (congrArg AV.bool (by rw [decide_eq_true hkL]; rfl)) ?_
    refine S_ ?_
    by_cases hXr : X = root
    · refine Seq.nearr (false) tt_ok (by rfl) (by rfl) (by rfl) (by kernel_rfl) (by rfl) (by rfl) (by rfl) rfl ⟨fun _ => (dig_eq hX2 hr).2 hXr, fun _ => rfl⟩ ?_
      refine S_ ?_
      refine VC.cond (by rfl) (fun hb => ?_) (fun hb => ?_) <;> (try simp only [decide_eq_true_eq, decide_eq_false_iff_not, Bool.not_eq_true', Bool.not_eq_false'] at hb) <;> (try (exfalso; omega)) <;> (try (cases hb; done))
      refine S_ ?_
      rw [if_pos ⟨hkL, hXr⟩]
      exact retQ_ok (by rfl) [] nil_sub ⟨rfl, rfl⟩
    · refine Seq.nearr (true) tt_ok (by rfl) (by rfl) (by rfl) (by kernel_rfl) (by rfl) (by rfl) (by rfl) rfl ⟨fun e => (by cases e), fun e => absurd ((dig_eq hX2 hr).1 e) hXr⟩ ?_
      refine S_ ?_
      refine VC.cond (by rfl) (fun hb => ?_) (fun hb => ?_) <;> (try simp only [decide_eq_true_eq, decide_eq_false_iff_not, Bool.not_eq_true', Bool.not_eq_false'] at hb) <;> (try (exfalso; omega)) <;> (try (cases hb; done))
      refine S_ ?_
      rw [if_neg fun e => hXr e.2]
      exact retQ_ok (by rfl) [] nil_sub ⟨rfl, rfl⟩
  · refine Seq.same 54 (u' := .bool true) (by rfl) (congrArg AV.bool (by rw [decide_eq_false hkL]; rfl)) ?_
    refine S_ ?_
    refine VC.cond (by rfl) (fun hb => ?_) (fun hb => ?_) <;> (try simp only [decide_eq_true_eq, decide_eq_false_iff_not, Bool.not_eq_true', Bool.not_eq_false'] at hb) <;> (try (exfalso; omega)) <;> (try (cases hb; done))
    refine S_ ?_
    rw [if_neg fun e => hkL e.1]
    exact retQ_ok (by rfl) [] nil_sub ⟨rfl, rfl⟩
end Go.Proofs.YtbphmbmdkojbnaaDoor
