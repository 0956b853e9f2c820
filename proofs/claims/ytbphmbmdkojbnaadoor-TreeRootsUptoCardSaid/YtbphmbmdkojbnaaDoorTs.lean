
/- tree.Extends. -/
import Derived.Test.YtbphmbmdkojbnaaDoorTr
set_option linter.unusedSimpArgs false
set_option linter.unusedVariables false
namespace Go.Proofs.YtbphmbmdkojbnaaDoor
open Go.V Go.RowKit Go.U Go.L
def argsX (first root : List UInt8) (x y : Int) (L : List (List UInt8)) : AV := .pair (digA first) (.pair (digA root) (.pair (.int .i64 x) (.pair (.int .i64 y) (.pair (digsV L) .nul))))
set_option maxRecDepth 10000 in
theorem ext_arg (first root : List UInt8) (x y : Int) (L : List (List UInt8)) (h : x < 0 ∨ y < x ∨ 1073741824 < y) :
    Ok Tryd.prog 22 gK [] (argsX first root x y L) (fun r h' => r = .int .i64 1 ∧ h' = []) := by
  refine Ok.of_vc tt_ok Tryd.func22 rfl rfl (by show 5 ≤ _; decide) 0 (fun i av h => by cases h) fun c0 => ?_
  refine S_ ?_
  refine Seq.join (X := Unit) (fun _ => ⟨[(23, .bool true)], [], gK, 0⟩) (fun _ => True) ?_ fun _ _ => ?_
  · by_cases h1 : x < 0
    · refine Seq.same 15 (u' := .bool true) (by rfl) (congrArg AV.bool (decide_eq_true (by omega))) ?_
      refine S_ ?_
      refine ⟨(), trivial, ?_⟩
      refine Sim.less [] (by rfl) ?_ ?_ <;> (repeat' (first | exact EnvLe.nil | exact HeapLe.nil | with_reducible apply EnvLe.cons | with_reducible apply HeapLe.cons | (with_reducible refine RelA.int ?_; first | (refine Keep.mk ?_; first | with_reducible rfl | omega | decide) | skip) | exact rfl | exact ⟨rfl, rfl⟩ | (with_reducible refine RelA.rsl ?_; intro i hi) | (with_reducible refine RelA.arr ?_; intro i hi) | with_reducible refine RelA.pair ?_ ?_ | with_reducible refine RelA.rptr ?_ | (with_reducible refine RelA.rslw ?_; intro i hi) | (refine RelA.rsl ?_; intro i hi) | (refine RelA.rslw ?_; intro i hi) | (refine RelA.arr ?_; intro i hi) | refine RelA.pair ?_ ?_ | refine RelA.tup ?_ | ((first | refine RelA.rslL (by first | rfl | ((try simp only [List.length_take, List.length_drop, List.length_append, List.length_cons, List.length_nil, List.length_map, List.length_range]); omega)) ?_ | refine RelA.rslT (by first | rfl | ((try simp only [List.length_take, List.length_drop, List.length_append, List.length_cons, List.length_nil, List.length_map, List.length_range]); omega)) ?_ | refine RelA.arrL (by first | rfl | ((try simp only [List.length_take, List.length_drop, List.length_append, List.length_cons, List.length_nil, List.length_map, List.length_range]); omega)) ?_); intro i hi; (try simp only [List.length_take, List.length_drop] at hi); (try simp (disch := omega) only [getD_take, getD_drop, Nat.zero_add, Int.toNat_natCast])) | exact RelA.bif_int | refine RelA.fn ?_ ?_)) <;> (try with_reducible refine Keep.mk ?_)
    refine Seq.same 15 (u' := .bool false) (by rfl) (congrArg AV.bool (decide_eq_false (by omega))) ?_
    refine S_ ?_
    by_cases h2 : y < x
    · refine Seq.same 20 (u' := .bool true) (by rfl) (congrArg AV.bool (decide_eq_true (by omega))) ?_
      refine S_ ?_
      refine ⟨(), trivial, ?_⟩
      refine Sim.less [] (by rfl) ?_ ?_ <;> (repeat' (first | exact EnvLe.nil | exact HeapLe.nil | with_reducible apply EnvLe.cons | with_reducible apply HeapLe.cons | (with_reducible refine RelA.int ?_; first | (refine Keep.mk ?_; first | with_reducible rfl | omega | decide) | skip) | exact rfl | exact ⟨rfl, rfl⟩ | (with_reducible refine RelA.rsl ?_; intro i hi) | (with_reducible refine RelA.arr ?_; intro i hi) | with_reducible refine RelA.pair ?_ ?_ | with_reducible refine RelA.rptr ?_ | (with_reducible refine RelA.rslw ?_; intro i hi) | (refine RelA.rsl ?_; intro i hi) | (refine RelA.rslw ?_; intro i hi) | (refine RelA.arr ?_; intro i hi) | refine RelA.pair ?_ ?_ | refine RelA.tup ?_ | ((first | refine RelA.rslL (by first | rfl | ((try simp only [List.length_take, List.length_drop, List.length_append, List.length_cons, List.length_nil, List.length_map, List.length_range]); omega)) ?_ | refine RelA.rslT (by first | rfl | ((try simp only [List.length_take, List.length_drop, List.length_append, List.length_cons, List.length_nil, List.length_map, List.length_range]); omega)) ?_ | refine RelA.arrL (by first | rfl | ((try simp only [List.length_take, List.length_drop, List.length_append, List.length_cons, List.length_nil, List.length_map, List.length_range]); omega)) ?_); intro i hi; (try simp only [List.length_take, List.length_drop] at hi); (try simp (disch := omega) only [getD_take, getD_drop, Nat.zero_add, Int.toNat_natCast])) | exact RelA.bif_int | refine RelA.fn ?_ ?_)) <;> (try with_reducible refine Keep.mk ?_)
    refine Seq.same 20 (u' := .bool false) (by rfl) (congrArg AV.bool (decide_eq_false (by omega))) ?_
    refine S_ ?_
    refine ⟨(), trivial, ?_⟩
    rw [decide_eq_true (show 1073741824 < y by omega)]
    refine Sim.less [] (by rfl) ?_ ?_ <;> (repeat' (first | exact EnvLe.nil | exact HeapLe.nil | with_reducible apply EnvLe.cons | with_reducible apply HeapLe.cons | (with_reducible refine RelA.int ?_; first | (refine Keep.mk ?_; first | with_reducible rfl | omega | decide) | skip) | exact rfl | exact ⟨rfl, rfl⟩ | (with_reducible refine RelA.rsl ?_; intro i hi) | (with_reducible refine RelA.arr ?_; intro i hi) | with_reducible refine RelA.pair ?_ ?_ | with_reducible refine RelA.rptr ?_ | (with_reducible refine RelA.rslw ?_; intro i hi) | (refine RelA.rsl ?_; intro i hi) | (refine RelA.rslw ?_; intro i hi) | (refine RelA.arr ?_; intro i hi) | refine RelA.pair ?_ ?_ | refine RelA.tup ?_ | ((first | refine RelA.rslL (by first | rfl | ((try simp only [List.length_take, List.length_drop, List.length_append, List.length_cons, List.length_nil, List.length_map, List.length_range]); omega)) ?_ | refine RelA.rslT (by first | rfl | ((try simp only [List.length_take, List.length_drop, List.length_append, List.length_cons, List.length_nil, List.length_map, List.length_range]); omega)) ?_ | refine RelA.arrL (by first | rfl | ((try simp only [List.length_take, List.length_drop, List.length_append, List.length_cons, List.length_nil, List.length_map, List.length_range]); omega)) ?_); intro i hi; (try simp only [List.length_take, List.length_drop] at hi); (try simp (disch := omega) only [getD_take, getD_drop, Nat.zero_add, Int.toNat_natCast])) | exact RelA.bif_int | refine RelA.fn ?_ ?_)) <;> (try with_reducible refine Keep.mk ?_)
  refine S_ ?_
  refine VC.cond (by rfl) (fun hb => ?_) (fun hb => ?_) <;> (try simp only [decide_eq_true_eq, decide_eq_false_iff_not, Bool.not_eq_true', Bool.not_eq_false'] at hb) <;> (try (exfalso; omega)) <;> (try (cases hb; done))
  refine S_ ?_
  exact retQ_ok (by rfl) [] nil_sub ⟨rfl, rfl⟩
def zeroE (first root : List UInt8) (L : List (List UInt8)) : Int := if L.length = 1 ∧ L.getD 0 [] = rootB [] ∧ first = L.getD 0 [] ∧ root = L.getD 0 [] then 0 else 15
set_option maxRecDepth 10000 in
theorem ext_zero (first root : List UInt8) (hf : first.length = 16) (hr : root.length = 16) (L : List (List UInt8)) (hL : DOk L) :
    Ok Tryd.prog 22 gK [] (argsX first root 0 0 L) (fun r h' => r = .int .i64 (zeroE first root L) ∧ h' = []) := by
  have hL1 := hL.1
  have cr := root_ok [] ⟨by decide, fun x hx => by cases hx⟩
  have hrb : (rootB []).length = 16 := rootB_length _
  have hd : L.length = 1 → (L.getD 0 []).length = 16 := fun h => by rw [← digsV_get (by omega)]; exact hL.get 0
  refine Ok.of_vc tt_ok Tryd.func22 rfl rfl (by show 5 ≤ _; decide) 0 (fun i av h => by cases h) fun c0 => ?_
  refine S_ ?_
  refine VC.cond (b := false) (by rfl) (fun e => by cases e) (fun _ => ?_) 
  refine S_ ?_
  refine VC.cond (b := true) (by rfl) (fun _ => ?_) (fun e => by cases e) 
  refine S_ ?_
  refine VC.draw (mkP [(0, 0), (1, 1), (2, 3), (3, 7), (4, 15), (5, 31), (6, 63), (7, 15), (8, 255), (9, 511), (10, 1023), (11, 2047), (12, 2047), (13, 6143), (14, 14335), (15, 32767), (16, 65535), (17, 131071), (18, 262143), (19, 262143), (20, 786431), (21, 1835007), (22, 4194303), (23, 8388607)]) [] (by rfl) (by kernel_rfl) (by rfl) (by rfl) ?_
  refine D_ ?_
  by_cases h1 : L.length = 1
  · have hd1 := hd h1
    rw [decide_eq_false (show ¬ (((L.length : Nat) : Int) ≠ 1) by omega)]
    refine D_ ?_
    refine DSeq.callp false (cr) Tryd.func11 gK_ok subG.refl (by rfl) (fastE (by rfl)) (fastH (by rfl)) (by rfl) (by rfl) rfl rfl rfl rfl rfl (by rfl) (by rfl) VW_ NI_ NI_ FR_ ?_
    by_cases h2 : L.getD 0 [] = rootB []
    · refine DSeq.nearr (false) tt_ok (by rfl) (fastE (by rfl)) (fastH (by rfl)) (by rfl) (by rfl) (by rfl) (by kernel_rfl) (by rfl) (by rfl) (by rfl) ⟨fun _ => (dig_eq hd1 hrb).2 h2, fun _ => rfl⟩ (by rfl) ?_
      refine D_ ?_
      by_cases h3 : first = L.getD 0 []
      · refine DSeq.nearr (false) tt_ok (by rfl) (fastE (by rfl)) (fastH (by rfl)) (by rfl) (by rfl) (by rfl) (by kernel_rfl) (by rfl) (by rfl) (by rfl) ⟨fun _ => (dig_eq hf hd1).2 h3, fun _ => rfl⟩ (by rfl) ?_
        refine D_ ?_
        by_cases h4 : root = L.getD 0 []
        · rw [show zeroE first root L = 0 by unfold zeroE; rw [if_pos ⟨h1, h2, h3, h4⟩]]
          refine DSeq.nearr (false) tt_ok (by rfl) (fastE (by rfl)) (fastH (by rfl)) (by rfl) (by rfl) (by rfl) (by kernel_rfl) (by rfl) (by rfl) (by rfl) ⟨fun _ => (dig_eq hr hd1).2 h4, fun _ => rfl⟩ (by rfl) ?_
          refine D_ ?_
          refine S_ ?_
          refine VC.cond (by rfl) (fun hb => ?_) (fun hb => ?_) <;> (try simp only [decide_eq_true_eq, decide_eq_false_iff_not, Bool.not_eq_true', Bool.not_eq_false'] at hb) <;> (try (exfalso; omega)) <;> (try (cases hb; done))
          refine S_ ?_
          exact retQ_ok (by rfl) [] nil_sub ⟨rfl, rfl⟩
        · rw [show zeroE first root L = 15 by unfold zeroE; rw [if_neg fun e => h4 e.2.2.2]]
          refine DSeq.nearr (true) tt_ok (by rfl) (fastE (by rfl)) (fastH (by rfl)) (by rfl) (by rfl) (by rfl) (by kernel_rfl) (by rfl) (by rfl) (by rfl) ⟨fun e => (by cases e), fun e => absurd ((dig_eq hr hd1).1 e) h4⟩ (by rfl) ?_
          refine D_ ?_
          refine S_ ?_
          refine VC.cond (by rfl) (fun hb => ?_) (fun hb => ?_) <;> (try simp only [decide_eq_true_eq, decide_eq_false_iff_not, Bool.not_eq_true', Bool.not_eq_false'] at hb) <;> (try (exfalso; omega)) <;> (try (cases hb; done))
          refine S_ ?_
          exact retQ_ok (by rfl) [] nil_sub ⟨rfl, rfl⟩
      · rw [show zeroE first root L = 15 by unfold zeroE; rw [if_neg fun e => h3 e.2.2.1]]
        refine DSeq.nearr (true) tt_ok (by rfl) (fastE (by rfl)) (fastH (by rfl)) (by rfl) (by rfl) (by rfl) (by kernel_rfl) (by rfl) (by rfl) (by rfl) ⟨fun e => (by cases e), fun e => absurd ((dig_eq hf hd1).1 e) h3⟩ (by rfl) ?_
        refine D_ ?_
        refine S_ ?_
        refine VC.cond (by rfl) (fun hb => ?_) (fun hb => ?_) <;> (try simp only [decide_eq_true_eq, decide_eq_false_iff_not, Bool.not_eq_true', Bool.not_eq_false'] at hb) <;> (try (exfalso; omega)) <;> (try (cases hb; done))
        refine S_ ?_
        exact retQ_ok (by rfl) [] nil_sub ⟨rfl, rfl⟩
    · rw [show zeroE first root L = 15 by unfold zeroE; rw [if_neg fun e => h2 e.2.1]]
      refine DSeq.nearr (true) tt_ok (by rfl) (fastE (by rfl)) (fastH (by rfl)) (by rfl) (by rfl) (by rfl) (by kernel_rfl) (by rfl) (by rfl) (by rfl) ⟨fun e => (by cases e), fun e => absurd ((dig_eq hd1 hrb).1 e) h2⟩ (by rfl) ?_
      refine D_ ?_
      refine S_ ?_
      refine VC.cond (by rfl) (fun hb => ?_) (fun hb => ?_) <;> (try simp only [decide_eq_true_eq, decide_eq_false_iff_not, Bool.not_eq_true', Bool.not_eq_false'] at hb) <;> (try (exfalso; omega)) <;> (try (cases hb; done))
      refine S_ ?_
      exact retQ_ok (by rfl) [] nil_sub ⟨rfl, rfl⟩
  · rw [decide_eq_true (show (((L.length : Nat) : Int) ≠ 1) by omega)]
    rw [show zeroE first root L = 15 by unfold zeroE; rw [if_neg fun e => h1 e.1]]
    refine D_ ?_
    refine S_ ?_
    refine VC.cond (by rfl) (fun hb => ?_) (fun hb => ?_) <;> (try simp only [decide_eq_true_eq, decide_eq_false_iff_not, Bool.not_eq_true', Bool.not_eq_false'] at hb) <;> (try (exfalso; omega)) <;> (try (cases hb; done))
    refine S_ ?_
    exact retQ_ok (by rfl) [] nil_sub ⟨rfl, rfl⟩
def extE (first root : List UInt8) (x y : Nat) (L : List (List UInt8)) : Int := if (Tree.steps x 0 y).length = L.length ∧ valD x x L [] 0 y 0 = root ∧ (if x = 0 then rootB [] else oldD x L 0 y 0) = first then 0 else 15
set_option maxRecDepth 10000 in
theorem ext_pos (first root : List UInt8) (hf : first.length = 16) (hr : root.length = 16) (x y : Nat) (hy : 1 ≤ y) (hx : x ≤ y) (hy2 : y ≤ 1073741824) (L : List (List UInt8)) (hL : DOk L) :
    Ok Tryd.prog 22 gK [] (argsX first root x y L) (fun r h' => r = .int .i64 (extE first root x y L) ∧ h' = []) := by
  have hL1 := hL.1
  have cr := root_ok [] ⟨by decide, fun x hx => by cases hx⟩
  have hrb : (rootB []).length = 16 := rootB_length _
  have c1 := walkExt_ok x L hL 0 y hy (by omega) 0 (by omega)
  rw [Nat.zero_add, Nat.zero_add] at c1
  have hv := valD_length x x L [] hL 0 y 0 hy
  have ho := oldD_length x L hL 0 y hy 0
  unfold extE
  generalize (Tree.steps x 0 y).length = k at *
  generalize valD x x L [] 0 y 0 = V at *
  generalize oldD x L 0 y 0 = O at *
  have c2 := all_ok L hL k
  refine Ok.of_vc tt_ok Tryd.func22 rfl rfl (by show 5 ≤ _; decide) 0 (fun i av h => by cases h) fun c0 => ?_
  refine S_ ?_
  refine Seq.same 15 (u' := .bool false) (by rfl) (congrArg AV.bool (decide_eq_false (by omega))) ?_
  refine S_ ?_
  refine Seq.same 20 (u' := .bool false) (by rfl) (congrArg AV.bool (decide_eq_false (by omega))) ?_
  refine S_ ?_
  refine VC.cond (by rfl) (fun hb => ?_) (fun hb => ?_) <;> (try simp only [decide_eq_true_eq, decide_eq_false_iff_not, Bool.not_eq_true', Bool.not_eq_false'] at hb) <;> (try (exfalso; omega))
  refine S_ ?_
  refine VC.cond (by rfl) (fun hb => ?_) (fun hb => ?_) <;> (try simp only [decide_eq_true_eq, decide_eq_false_iff_not, Bool.not_eq_true', Bool.not_eq_false'] at hb) <;> (try (exfalso; omega))
  refine S_ ?_
  refine Seq.conv (s' := ⟨[(54, .fn (.func 48) .nul (.pair (.ptr 2 []) (.pair (.ptr 4 []) .nul))), (53, .int .i64 (y : Nat)), (11, .ptr 4 []), (7, .ptr 2 []), (6, .ptr 1 []), (5, .ptr 0 [])], [(0, digA first), (1, digA root), (2, .int .i64 (x : Nat)), (3, takerA L 0), (4, .ptr 3 [])], gK, 5⟩) (by
    refine Sim.less [] (by rfl) ?_ ?_ <;> (repeat' (first | exact EnvLe.nil | exact HeapLe.nil | with_reducible apply EnvLe.cons | with_reducible apply HeapLe.cons | (with_reducible refine RelA.int ?_; first | (refine Keep.mk ?_; first | with_reducible rfl | omega | decide) | skip) | exact rfl | exact ⟨rfl, rfl⟩ | (with_reducible refine RelA.rsl ?_; intro i hi) | (with_reducible refine RelA.arr ?_; intro i hi) | with_reducible refine RelA.pair ?_ ?_ | with_reducible refine RelA.rptr ?_ | (with_reducible refine RelA.rslw ?_; intro i hi) | (refine RelA.rsl ?_; intro i hi) | (refine RelA.rslw ?_; intro i hi) | (refine RelA.arr ?_; intro i hi) | refine RelA.pair ?_ ?_ | refine RelA.tup ?_ | ((first | refine RelA.rslL (by first | rfl | ((try simp only [List.length_take, List.length_drop, List.length_append, List.length_cons, List.length_nil, List.length_map, List.length_range]); omega)) ?_ | refine RelA.rslT (by first | rfl | ((try simp only [List.length_take, List.length_drop, List.length_append, List.length_cons, List.length_nil, List.length_map, List.length_range]); omega)) ?_ | refine RelA.arrL (by first | rfl | ((try simp only [List.length_take, List.length_drop, List.length_append, List.length_cons, List.length_nil, List.length_map, List.length_range]); omega)) ?_); intro i hi; (try simp only [List.length_take, List.length_drop] at hi); (try simp (disch := omega) only [getD_take, getD_drop, Nat.zero_add, Int.toNat_natCast])) | exact RelA.bif_int | refine RelA.fn ?_ ?_)) <;> (try with_reducible refine Keep.mk ?_)
    all_goals (try (rcases (by omega : i = 0 ∨ i = 1) with rfl | rfl))
    all_goals (try exact rfl)) ?_
  refine Seq.conv (Sim.still (e' := [(54, .fn (.func 48) .nul (.pair (.rptr false (.int .i64 (x : Nat))) (.pair (.rptr false (.ptr 3 [])) .nul))), (53, .int .i64 (y : Nat)), (11, .rptr false (.ptr 3 [])), (7, .rptr false (.int .i64 (x : Nat))), (6, .ptr 1 []), (5, .ptr 0 [])]) (h' := [(3, takerA L 0), (0, digA first), (1, digA root)]) [2, 4] (by repeat' (first | exact trivial | refine ⟨by rfl, ?_⟩)) (by rfl) (by repeat' (first | exact EnvV.nil | refine EnvV.cons (by rfl) VW_ NI_ ?_))) ?_ 
  refine Seq.callo false [(0, 3)] [(3, 0)] (growA V O (decide (0 < x))) ([(3, takerA L k)]) 5 (c1) Tryd.func47 gK_ok subG.refl (by rfl) (by rfl) rfl rfl rfl rfl rfl (by rfl) rfl (by rfl) (by rfl) (by rfl) (by rfl) VW_ NI_ R_ (noFrL_ok NI_) BK_ ?_
  refine S_ ?_
  generalize decide (0 < x) = bb at *
  generalize hO' : (if x = 0 then rootB [] else O) = O'
  have ho' : O'.length = 16 := by rw [← hO']; split <;> assumption
  refine VC.joinT (X := Unit) (fun _ => ⟨[(12, .ptr 5 []), (11, .rptr false (.ptr 3 [])), (6, .ptr 1 []), (5, .ptr 0 [])], [(3, takerA L k), (5, growA V O' bb), (0, digA first), (1, digA root)], gK, 6⟩) (fun _ => True) ?_ fun _ _ => ?_
  · refine VC.cond (by rfl) (fun hb => ?_) (fun hb => ?_) <;> (try simp only [decide_eq_true_eq, decide_eq_false_iff_not, Bool.not_eq_true', Bool.not_eq_false'] at hb) <;> (try (exfalso; omega))
    · rw [if_pos (by omega)] at hO'
      subst hO'
      refine S_ ?_
      refine Seq.callp false (cr) Tryd.func11 gK_ok subG.refl (by rfl) (by rfl) rfl rfl rfl rfl rfl (by rfl) rfl VW_ NI_ NI_ FR_ ?_
      refine S_ ?_
      refine ⟨(), trivial, ?_⟩
      refine Sim.less [] (by rfl) ?_ ?_ <;> (repeat' (first | exact EnvLe.nil | exact HeapLe.nil | with_reducible apply EnvLe.cons | with_reducible apply HeapLe.cons | (with_reducible refine RelA.int ?_; first | (refine Keep.mk ?_; first | with_reducible rfl | omega | decide) | skip) | exact rfl | exact ⟨rfl, rfl⟩ | (with_reducible refine RelA.rsl ?_; intro i hi) | (with_reducible refine RelA.arr ?_; intro i hi) | with_reducible refine RelA.pair ?_ ?_ | with_reducible refine RelA.rptr ?_ | (with_reducible refine RelA.rslw ?_; intro i hi) | (refine RelA.rsl ?_; intro i hi) | (refine RelA.rslw ?_; intro i hi) | (refine RelA.arr ?_; intro i hi) | refine RelA.pair ?_ ?_ | refine RelA.tup ?_ | ((first | refine RelA.rslL (by first | rfl | ((try simp only [List.length_take, List.length_drop, List.length_append, List.length_cons, List.length_nil, List.length_map, List.length_range]); omega)) ?_ | refine RelA.rslT (by first | rfl | ((try simp only [List.length_take, List.length_drop, List.length_append, List.length_cons, List.length_nil, List.length_map, List.length_range]); omega)) ?_ | refine RelA.arrL (by first | rfl | ((try simp only [List.length_take, List.length_drop, List.length_append, List.length_cons, List.length_nil, List.length_map, List.length_range]); omega)) ?_); intro i hi; (try simp only [List.length_take, List.length_drop] at hi); (try simp (disch := omega) only [getD_take, getD_drop, Nat.zero_add, Int.toNat_natCast])) | exact RelA.bif_int | refine RelA.fn ?_ ?_)) <;> (try with_reducible refine Keep.mk ?_)
    · rw [if_neg (by omega)] at hO'
      subst hO'
      refine S_ ?_
      refine ⟨(), trivial, ?_⟩
      refine Sim.less [] (by rfl) ?_ ?_ <;> (repeat' (first | exact EnvLe.nil | exact HeapLe.nil | with_reducible apply EnvLe.cons | with_reducible apply HeapLe.cons | (with_reducible refine RelA.int ?_; first | (refine Keep.mk ?_; first | with_reducible rfl | omega | decide) | skip) | exact rfl | exact ⟨rfl, rfl⟩ | (with_reducible refine RelA.rsl ?_; intro i hi) | (with_reducible refine RelA.arr ?_; intro i hi) | with_reducible refine RelA.pair ?_ ?_ | with_reducible refine RelA.rptr ?_ | (with_reducible refine RelA.rslw ?_; intro i hi) | (refine RelA.rsl ?_; intro i hi) | (refine RelA.rslw ?_; intro i hi) | (refine RelA.arr ?_; intro i hi) | refine RelA.pair ?_ ?_ | refine RelA.tup ?_ | ((first | refine RelA.rslL (by first | rfl | ((try simp only [List.length_take, List.length_drop, List.length_append, List.length_cons, List.length_nil, List.length_map, List.length_range]); omega)) ?_ | refine RelA.rslT (by first | rfl | ((try simp only [List.length_take, List.length_drop, List.length_append, List.length_cons, List.length_nil, List.length_map, List.length_range]); omega)) ?_ | refine RelA.arrL (by first | rfl | ((try simp only [List.length_take, List.length_drop, List.length_append, List.length_cons, List.length_nil, List.length_map, List.length_range]); omega)) ?_); intro i hi; (try simp only [List.length_take, List.length_drop] at hi); (try simp (disch := omega) only [getD_take, getD_drop, Nat.zero_add, Int.toNat_natCast])) | exact RelA.bif_int | refine RelA.fn ?_ ?_)) <;> (try with_reducible refine Keep.mk ?_)
  clear hO' cr hrb ho c1
  refine S_ ?_
  refine Seq.callo false [(0, 3)] [(3, 0)] (.bool (decide (k = L.length))) ([(3, takerA L k)]) 6 (c2) Tryd.func45 gK_ok subG.nil (by rfl) (by rfl) rfl rfl rfl rfl rfl (by rfl) rfl (by rfl) (by rfl) (by rfl) (by rfl) VW_ NI_ R_ (noFrL_ok NI_) BK_ ?_
  refine S_ ?_
  by_cases hkL : k = L.length
  · refine Seq.same 63 (u' := .bool false) (by rfl) (congrArg AV.bool (by rw [decide_eq_true hkL]; rfl)) ?_
    refine S_ ?_
    by_cases h1 : V = root
    · refine Seq.nearr (false) tt_ok (by rfl) (by rfl) (by rfl) (by kernel_rfl) (by rfl) (by rfl) (by rfl) rfl ⟨fun _ => (dig_eq hv hr).2 h1, fun _ => rfl⟩ ?_
      refine S_ ?_
      by_cases h2 : O' = first
      · rw [if_pos ⟨hkL, h1, h2⟩]
        refine Seq.nearr (false) tt_ok (by rfl) (by rfl) (by rfl) (by kernel_rfl) (by rfl) (by rfl) (by rfl) rfl ⟨fun _ => (dig_eq ho' hf).2 h2, fun _ => rfl⟩ ?_
        refine S_ ?_
        refine VC.cond (by rfl) (fun hb => ?_) (fun hb => ?_) <;> (try simp only [decide_eq_true_eq, decide_eq_false_iff_not, Bool.not_eq_true', Bool.not_eq_false'] at hb) <;> (try (exfalso; omega)) <;> (try (cases hb; done))
        refine S_ ?_
        exact retQ_ok (by rfl) [] nil_sub ⟨rfl, rfl⟩
      · rw [if_neg fun e => h2 e.2.2]
        refine Seq.nearr (true) tt_ok (by rfl) (by rfl) (by rfl) (by kernel_rfl) (by rfl) (by rfl) (by rfl) rfl ⟨fun e => (by cases e), fun e => absurd ((dig_eq ho' hf).1 e) h2⟩ ?_
        refine S_ ?_
        refine VC.cond (by rfl) (fun hb => ?_) (fun hb => ?_) <;> (try simp only [decide_eq_true_eq, decide_eq_false_iff_not, Bool.not_eq_true', Bool.not_eq_false'] at hb) <;> (try (exfalso; omega)) <;> (try (cases hb; done))
        refine S_ ?_
        exact retQ_ok (by rfl) [] nil_sub ⟨rfl, rfl⟩
    · rw [if_neg fun e => h1 e.2.1]
      refine Seq.nearr (true) tt_ok (by rfl) (by rfl) (by rfl) (by kernel_rfl) (by rfl) (by rfl) (by rfl) rfl ⟨fun e => (by cases e), fun e => absurd ((dig_eq hv hr).1 e) h1⟩ ?_
      refine S_ ?_
      refine VC.cond (by rfl) (fun hb => ?_) (fun hb => ?_) <;> (try simp only [decide_eq_true_eq, decide_eq_false_iff_not, Bool.not_eq_true', Bool.not_eq_false'] at hb) <;> (try (exfalso; omega)) <;> (try (cases hb; done))
      refine S_ ?_
      exact retQ_ok (by rfl) [] nil_sub ⟨rfl, rfl⟩
  · rw [if_neg fun e => hkL e.1]
    refine Seq.same 63 (u' := .bool true) (by rfl) (congrArg AV.bool (by rw [decide_eq_false hkL]; rfl)) ?_
    refine S_ ?_
    refine VC.cond (by rfl) (fun hb => ?_) (fun hb => ?_) <;> (try simp only [decide_eq_true_eq, decide_eq_false_iff_not, Bool.not_eq_true', Bool.not_eq_false'] at hb) <;> (try (exfalso; omega)) <;> (try (cases hb; done))
    refine S_ ?_
    exact retQ_ok (by rfl) [] nil_sub ⟨rfl, rfl⟩
end Go.Proofs.YtbphmbmdkojbnaaDoor
