
/- tree.Longer, dioramaref39.Longer: the functions. -/
import Derived.Test.YtbphmbmdkojbnaaDoorTj
set_option linter.unusedSimpArgs false
set_option linter.unusedVariables false
namespace Go.Proofs.YtbphmbmdkojbnaaDoor
open Go.V Go.RowKit Go.U Go.L
/-- What Prove and Longer return. -/
structure PR where
  n : Int
  p : Int
  R : List (List UInt8)
  e : Int
def proveR (l : List (List UInt8)) (p q : Int) : PR := if p < 0 ∨ q ≤ p ∨ (l.length : Int) < q then ⟨0, 0, [], 1⟩ else ⟨l.length, p, rootsD l (Tree.rest p.toNat q.toNat 0 l.length), 0⟩
theorem prove_ok (l : List (List UInt8)) (hl : LOk l) (hl2 : l.length ≤ 1000000000) (p q : Int) : Ok Tryd.prog 13 gK [] (.pair (strs l) (.pair (.int .i64 p) (.pair (.int .i64 q) .nul))) (fun r h' => r = resP (proveR l p q).n (proveR l p q).p (proveR l p q).R.length (proveR l p q).e ∧ h' = [(9, digsO (proveR l p q).R.length (proveR l p q).R)]) := by
  unfold proveR
  split
  · rename_i h; exact prove_no l hl2 p q h
  · rename_i h
    obtain ⟨a, rfl⟩ : ∃ a : Nat, p = a := ⟨p.toNat, by omega⟩
    obtain ⟨b, rfl⟩ : ∃ b : Nat, q = b := ⟨q.toNat, by omega⟩
    exact prove_yes l hl hl2 a b (by omega) (by omega) _ rfl
theorem refProve_ok (l : List (List UInt8)) (hl : LOk l) (hl2 : l.length ≤ 1000000000) (p q : Int) : Ok Tryd.prog 14 gR [] (.pair (strs l) (.pair (.int .i64 p) (.pair (.int .i64 q) .nul))) (fun r h' => r = resP (proveR l p q).n (proveR l p q).p (proveR l p q).R.length (proveR l p q).e ∧ h' = [(9, digsO (proveR l p q).R.length (proveR l p q).R)]) := by
  unfold proveR
  split
  · rename_i h; exact refProve_no l hl2 p q h
  · rename_i h
    obtain ⟨a, rfl⟩ : ∃ a : Nat, p = a := ⟨p.toNat, by omega⟩
    obtain ⟨b, rfl⟩ : ∃ b : Nat, q = b := ⟨q.toNat, by omega⟩
    exact refProve_yes l hl hl2 a b (by omega) (by omega) _ rfl
def resL (m : Nat) (e : Int) : AV := .tup (.pair (.sl 9 [] 16 0 m) (.pair (.int .i64 e) .nul))
def longerR (l : List (List UInt8)) (n : Int) : List (List UInt8) × Int := if n < 0 ∨ (l.length : Int) < n then ([], 1) else if l.length = 0 then ([rootB []], 0) else (rootsD l (Tree.steps n.toNat 0 l.length), 0)
set_option maxRecDepth 10000 in
theorem longer_ok (l : List (List UInt8)) (hl : LOk l) (hl2 : l.length ≤ 1000000000) (n : Int) : Ok Tryd.prog 15 gK [] (.pair (strs l) (.pair (.int .i64 n) .nul)) (fun r h' => r = resL (longerR l n).1.length (longerR l n).2 ∧ h' = [(9, digsO (longerR l n).1.length (longerR l n).1)]) := by
  refine Ok.of_vc tt_ok Tryd.func15 rfl rfl (by show 2 ≤ _; decide) 0 (fun i av h => by cases h) fun c0 => ?_
  by_cases h0 : n < 0 ∨ (l.length : Int) < n
  · rw [show longerR l n = ([], 1) by unfold longerR; rw [if_pos h0]]
    refine S_ ?_
    refine Seq.join (X := Unit) (fun _ => ⟨[(14, .bool true), (5, .int .i64 0), (4, .val (.slice none 0 0))], [], gK, 2⟩) (fun _ => True) ?_ fun _ _ => ?_
    · by_cases h1 : n < 0
      · refine Seq.same 9 (u' := .bool true) (by rfl) (congrArg AV.bool (decide_eq_true h1)) ?_
        refine S_ ?_
        refine ⟨(), trivial, ?_⟩
        refine Sim.less [] (by rfl) ?_ ?_ <;> (repeat' (first | exact EnvLe.nil | exact HeapLe.nil | with_reducible apply EnvLe.cons | with_reducible apply HeapLe.cons | (with_reducible refine RelA.int ?_; first | (refine Keep.mk ?_; first | with_reducible rfl | omega | decide) | skip) | exact rfl | exact ⟨rfl, rfl⟩ | (with_reducible refine RelA.rsl ?_; intro i hi) | (with_reducible refine RelA.arr ?_; intro i hi) | with_reducible refine RelA.pair ?_ ?_ | with_reducible refine RelA.rptr ?_ | (with_reducible refine RelA.rslw ?_; intro i hi) | (refine RelA.rsl ?_; intro i hi) | (refine RelA.rslw ?_; intro i hi) | (refine RelA.arr ?_; intro i hi) | refine RelA.pair ?_ ?_ | refine RelA.tup ?_ | ((first | refine RelA.rslL (by first | rfl | ((try simp only [List.length_take, List.length_drop, List.length_append, List.length_cons, List.length_nil, List.length_map, List.length_range]); omega)) ?_ | refine RelA.rslT (by first | rfl | ((try simp only [List.length_take, List.length_drop, List.length_append, List.length_cons, List.length_nil, List.length_map, List.length_range]); omega)) ?_ | refine RelA.arrL (by first | rfl | ((try simp only [List.length_take, List.length_drop, List.length_append, List.length_cons, List.length_nil, List.length_map, List.length_range]); omega)) ?_); intro i hi; (try simp only [List.length_take, List.length_drop] at hi); (try simp (disch := omega) only [getD_take, getD_drop, Nat.zero_add, Int.toNat_natCast])) | exact RelA.bif_int | refine RelA.fn ?_ ?_)) <;> (try with_reducible refine Keep.mk ?_)
      · refine Seq.same 9 (u' := .bool false) (by rfl) (congrArg AV.bool (decide_eq_false h1)) ?_
        refine S_ ?_
        refine ⟨(), trivial, ?_⟩
        have h2 : (l.length : Int) < n := by omega
        rw [decide_eq_true h2]
        refine Sim.less [] (by rfl) ?_ ?_ <;> (repeat' (first | exact EnvLe.nil | exact HeapLe.nil | with_reducible apply EnvLe.cons | with_reducible apply HeapLe.cons | (with_reducible refine RelA.int ?_; first | (refine Keep.mk ?_; first | with_reducible rfl | omega | decide) | skip) | exact rfl | exact ⟨rfl, rfl⟩ | (with_reducible refine RelA.rsl ?_; intro i hi) | (with_reducible refine RelA.arr ?_; intro i hi) | with_reducible refine RelA.pair ?_ ?_ | with_reducible refine RelA.rptr ?_ | (with_reducible refine RelA.rslw ?_; intro i hi) | (refine RelA.rsl ?_; intro i hi) | (refine RelA.rslw ?_; intro i hi) | (refine RelA.arr ?_; intro i hi) | refine RelA.pair ?_ ?_ | refine RelA.tup ?_ | ((first | refine RelA.rslL (by first | rfl | ((try simp only [List.length_take, List.length_drop, List.length_append, List.length_cons, List.length_nil, List.length_map, List.length_range]); omega)) ?_ | refine RelA.rslT (by first | rfl | ((try simp only [List.length_take, List.length_drop, List.length_append, List.length_cons, List.length_nil, List.length_map, List.length_range]); omega)) ?_ | refine RelA.arrL (by first | rfl | ((try simp only [List.length_take, List.length_drop, List.length_append, List.length_cons, List.length_nil, List.length_map, List.length_range]); omega)) ?_); intro i hi; (try simp only [List.length_take, List.length_drop] at hi); (try simp (disch := omega) only [getD_take, getD_drop, Nat.zero_add, Int.toNat_natCast])) | exact RelA.bif_int | refine RelA.fn ?_ ?_)) <;> (try with_reducible refine Keep.mk ?_)
    refine S_ ?_
    refine VC.cond (by rfl) (fun hb => ?_) (fun hb => ?_) <;> (try simp only [decide_eq_true_eq, decide_eq_false_iff_not, Bool.not_eq_true', Bool.not_eq_false'] at hb) <;> (try (exfalso; omega)) <;> (try (cases hb; done))
    repeat (first | with_reducible refine VC.seq ?_ | with_reducible refine VC.block ?_ | with_reducible refine VC.region ?_ | with_reducible refine thenQ_n ?_ | with_reducible refine VC.skip ?_)
    refine SQ_ ?_
    refine Seq.conv (Sim.ghost 4 16 (fun i => digA (([] : List (List UInt8)).getD i [])) (by rfl) (.inl rfl)) ?_
    refine Seq.conv (s' := ⟨[(5, .int .i64 1), (4, .sl 9 [] 16 0 0)], [(9, digsO 0 [])], gK, 10⟩) (by refine Sim.less [(9, 2)] (by rfl) ?_ ?_ <;> (repeat' (first | exact EnvLe.nil | exact HeapLe.nil | with_reducible apply EnvLe.cons | with_reducible apply HeapLe.cons | (with_reducible refine RelA.int ?_; first | (refine Keep.mk ?_; first | with_reducible rfl | omega | decide) | skip) | exact rfl | exact ⟨rfl, rfl⟩ | (with_reducible refine RelA.rsl ?_; intro i hi) | (with_reducible refine RelA.arr ?_; intro i hi) | with_reducible refine RelA.pair ?_ ?_ | with_reducible refine RelA.rptr ?_ | (with_reducible refine RelA.rslw ?_; intro i hi) | (refine RelA.rsl ?_; intro i hi) | (refine RelA.rslw ?_; intro i hi) | (refine RelA.arr ?_; intro i hi) | refine RelA.pair ?_ ?_ | refine RelA.tup ?_ | ((first | refine RelA.rslL (by first | rfl | ((try simp only [List.length_take, List.length_drop, List.length_append, List.length_cons, List.length_nil, List.length_map, List.length_range]); omega)) ?_ | refine RelA.rslT (by first | rfl | ((try simp only [List.length_take, List.length_drop, List.length_append, List.length_cons, List.length_nil, List.length_map, List.length_range]); omega)) ?_ | refine RelA.arrL (by first | rfl | ((try simp only [List.length_take, List.length_drop, List.length_append, List.length_cons, List.length_nil, List.length_map, List.length_range]); omega)) ?_); intro i hi; (try simp only [List.length_take, List.length_drop] at hi); (try simp (disch := omega) only [getD_take, getD_drop, Nat.zero_add, Int.toNat_natCast])) | exact RelA.bif_int | refine RelA.fn ?_ ?_)) <;> (try with_reducible refine Keep.mk ?_)) ?_
    refine S_ ?_
    exact retQ_ok (by rfl) [(9, digsO 0 [])] (subL_ok ⟨rfl, trivial⟩) ⟨rfl, rfl⟩
  · refine S_ ?_
    refine Seq.same 9 (u' := .bool false) (by rfl) (congrArg AV.bool (decide_eq_false (by omega))) ?_
    refine S_ ?_
    refine VC.cond (by rfl) (fun hb => ?_) (fun hb => ?_) <;> (try simp only [decide_eq_true_eq, decide_eq_false_iff_not, Bool.not_eq_true', Bool.not_eq_false'] at hb) <;> (try (exfalso; omega))
    refine S_ ?_
    refine VC.cond (by rfl) (fun hb => ?_) (fun hb => ?_) <;> (try simp only [decide_eq_true_eq, decide_eq_false_iff_not, Bool.not_eq_true', Bool.not_eq_false'] at hb) <;> (try (exfalso; omega))
    · have hl0 : l = [] := List.length_eq_zero_iff.1 (by omega)
      subst hl0
      rw [show longerR [] n = ([rootB []], 0) by unfold longerR; rw [if_neg h0]; rfl]
      refine S_ ?_
      refine Seq.callp false (root_ok [] hl) Tryd.func11 gK_ok subG.refl (by rfl) (by rfl) rfl rfl rfl rfl rfl (by rfl) rfl VW_ NI_ NI_ FR_ ?_
      generalize rootB [] = X
      refine SQ_ ?_
      refine Seq.conv (s' := ⟨[(5, .int .i64 0), (4, .sl 9 [] 16 0 1)], [(9, digsO 1 [X])], gK, 10⟩) (by
        refine Sim.less [(9, 2)] (by rfl) ?_ ?_ <;> (repeat' (first | exact EnvLe.nil | exact HeapLe.nil | with_reducible apply EnvLe.cons | with_reducible apply HeapLe.cons | (with_reducible refine RelA.int ?_; first | (refine Keep.mk ?_; first | with_reducible rfl | omega | decide) | skip) | exact rfl | exact ⟨rfl, rfl⟩ | (with_reducible refine RelA.rsl ?_; intro i hi) | (with_reducible refine RelA.arr ?_; intro i hi) | with_reducible refine RelA.pair ?_ ?_ | with_reducible refine RelA.rptr ?_ | (with_reducible refine RelA.rslw ?_; intro i hi) | (refine RelA.rsl ?_; intro i hi) | (refine RelA.rslw ?_; intro i hi) | (refine RelA.arr ?_; intro i hi) | refine RelA.pair ?_ ?_ | refine RelA.tup ?_ | ((first | refine RelA.rslL (by first | rfl | ((try simp only [List.length_take, List.length_drop, List.length_append, List.length_cons, List.length_nil, List.length_map, List.length_range]); omega)) ?_ | refine RelA.rslT (by first | rfl | ((try simp only [List.length_take, List.length_drop, List.length_append, List.length_cons, List.length_nil, List.length_map, List.length_range]); omega)) ?_ | refine RelA.arrL (by first | rfl | ((try simp only [List.length_take, List.length_drop, List.length_append, List.length_cons, List.length_nil, List.length_map, List.length_range]); omega)) ?_); intro i hi; (try simp only [List.length_take, List.length_drop] at hi); (try simp (disch := omega) only [getD_take, getD_drop, Nat.zero_add, Int.toNat_natCast])) | exact RelA.bif_int | refine RelA.fn ?_ ?_)) <;> (try with_reducible refine Keep.mk ?_)
        obtain rfl : i = 0 := by omega
        exact NoId.self (fun _ _ => trivial)) ?_
      refine S_ ?_
      exact retQ_ok (by rfl) [(9, digsO 1 [X])] (subL_ok ⟨rfl, trivial⟩) ⟨rfl, rfl⟩
    · obtain ⟨q, rfl⟩ : ∃ q : Nat, n = q := ⟨n.toNat, by omega⟩
      rw [show longerR l q = (rootsD l (Tree.steps q 0 l.length), 0) by unfold longerR; rw [if_neg h0, if_neg (by omega)]; rfl]
      have c1 := walkLonger_ok l hl q (by omega) 0 l.length (by omega) (by omega) [] (by show 0 + _ ≤ _; omega)
      rw [Nat.zero_add, List.nil_append] at c1
      generalize rootsD l (Tree.steps q 0 l.length) = R at *
      refine S_ ?_
      refine Seq.conv (Sim.ghostO 2 16 (fun i => digA (([] : List (List UInt8)).getD i [])) (by rfl) (by rfl)) ?_
      refine Seq.callo true [(0, 2), (1, 3)] [(4, 9), (2, 0)] (.nul) ([(2, .sl 4 [] 16 0 R.length), (4, digsO R.length R)]) 5 (c1) Tryd.func32 gK_ok subG.refl (by rfl) (by rfl) rfl rfl rfl rfl rfl (by rfl) rfl (by rfl) (by rfl) (by rfl) (by rfl) VW_ NI_ R_ (noFrL_ok NI_) BK_ ?_
      refine Seq.nil ?_
      refine thenQ_n ?_
      refine VC.conv (s' := ⟨[(6, .ptr 2 [])], [(2, .sl 9 [] 16 0 R.length), (9, digsO R.length R)], gK, 10⟩) (by refine Sim.less [(9, 4)] (by rfl) ?_ ?_ <;> (repeat' (first | exact EnvLe.nil | exact HeapLe.nil | with_reducible apply EnvLe.cons | with_reducible apply HeapLe.cons | (with_reducible refine RelA.int ?_; first | (refine Keep.mk ?_; first | with_reducible rfl | omega | decide) | skip) | exact rfl | exact ⟨rfl, rfl⟩ | (with_reducible refine RelA.rsl ?_; intro i hi) | (with_reducible refine RelA.arr ?_; intro i hi) | with_reducible refine RelA.pair ?_ ?_ | with_reducible refine RelA.rptr ?_ | (with_reducible refine RelA.rslw ?_; intro i hi) | (refine RelA.rsl ?_; intro i hi) | (refine RelA.rslw ?_; intro i hi) | (refine RelA.arr ?_; intro i hi) | refine RelA.pair ?_ ?_ | refine RelA.tup ?_ | ((first | refine RelA.rslL (by first | rfl | ((try simp only [List.length_take, List.length_drop, List.length_append, List.length_cons, List.length_nil, List.length_map, List.length_range]); omega)) ?_ | refine RelA.rslT (by first | rfl | ((try simp only [List.length_take, List.length_drop, List.length_append, List.length_cons, List.length_nil, List.length_map, List.length_range]); omega)) ?_ | refine RelA.arrL (by first | rfl | ((try simp only [List.length_take, List.length_drop, List.length_append, List.length_cons, List.length_nil, List.length_map, List.length_range]); omega)) ?_); intro i hi; (try simp only [List.length_take, List.length_drop] at hi); (try simp (disch := omega) only [getD_take, getD_drop, Nat.zero_add, Int.toNat_natCast])) | exact RelA.bif_int | refine RelA.fn ?_ ?_)) <;> (try with_reducible refine Keep.mk ?_)) ?_
      refine S_ ?_
      exact retQ_ok (by rfl) [(9, digsO R.length R)] (subL_ok ⟨rfl, trivial⟩) ⟨rfl, rfl⟩
set_option maxRecDepth 10000 in
theorem refLonger_ok (l : List (List UInt8)) (hl : LOk l) (hl2 : l.length ≤ 1000000000) (n : Int) : Ok Tryd.prog 16 gR [] (.pair (strs l) (.pair (.int .i64 n) .nul)) (fun r h' => r = resL (longerR l n).1.length (longerR l n).2 ∧ h' = [(9, digsO (longerR l n).1.length (longerR l n).1)]) := by
  refine Ok.of_vc tt_ok Tryd.func16 rfl rfl (by show 2 ≤ _; decide) 0 (fun i av h => by cases h) fun c0 => ?_
  by_cases h0 : n < 0 ∨ (l.length : Int) < n
  · rw [show longerR l n = ([], 1) by unfold longerR; rw [if_pos h0]]
    refine S_ ?_
    refine Seq.join (X := Unit) (fun _ => ⟨[(13, .bool true), (5, .int .i64 0), (4, .val (.slice none 0 0))], [], gR, 0⟩) (fun _ => True) ?_ fun _ _ => ?_
    · by_cases h1 : n < 0
      · refine Seq.same 8 (u' := .bool true) (by rfl) (congrArg AV.bool (decide_eq_true h1)) ?_
        refine S_ ?_
        refine ⟨(), trivial, ?_⟩
        refine Sim.less [] (by rfl) ?_ ?_ <;> (repeat' (first | exact EnvLe.nil | exact HeapLe.nil | with_reducible apply EnvLe.cons | with_reducible apply HeapLe.cons | (with_reducible refine RelA.int ?_; first | (refine Keep.mk ?_; first | with_reducible rfl | omega | decide) | skip) | exact rfl | exact ⟨rfl, rfl⟩ | (with_reducible refine RelA.rsl ?_; intro i hi) | (with_reducible refine RelA.arr ?_; intro i hi) | with_reducible refine RelA.pair ?_ ?_ | with_reducible refine RelA.rptr ?_ | (with_reducible refine RelA.rslw ?_; intro i hi) | (refine RelA.rsl ?_; intro i hi) | (refine RelA.rslw ?_; intro i hi) | (refine RelA.arr ?_; intro i hi) | refine RelA.pair ?_ ?_ | refine RelA.tup ?_ | ((first | refine RelA.rslL (by first | rfl | ((try simp only [List.length_take, List.length_drop, List.length_append, List.length_cons, List.length_nil, List.length_map, List.length_range]); omega)) ?_ | refine RelA.rslT (by first | rfl | ((try simp only [List.length_take, List.length_drop, List.length_append, List.length_cons, List.length_nil, List.length_map, List.length_range]); omega)) ?_ | refine RelA.arrL (by first | rfl | ((try simp only [List.length_take, List.length_drop, List.length_append, List.length_cons, List.length_nil, List.length_map, List.length_range]); omega)) ?_); intro i hi; (try simp only [List.length_take, List.length_drop] at hi); (try simp (disch := omega) only [getD_take, getD_drop, Nat.zero_add, Int.toNat_natCast])) | exact RelA.bif_int | refine RelA.fn ?_ ?_)) <;> (try with_reducible refine Keep.mk ?_)
      · refine Seq.same 8 (u' := .bool false) (by rfl) (congrArg AV.bool (decide_eq_false h1)) ?_
        refine S_ ?_
        refine ⟨(), trivial, ?_⟩
        have h2 : (l.length : Int) < n := by omega
        rw [decide_eq_true h2]
        refine Sim.less [] (by rfl) ?_ ?_ <;> (repeat' (first | exact EnvLe.nil | exact HeapLe.nil | with_reducible apply EnvLe.cons | with_reducible apply HeapLe.cons | (with_reducible refine RelA.int ?_; first | (refine Keep.mk ?_; first | with_reducible rfl | omega | decide) | skip) | exact rfl | exact ⟨rfl, rfl⟩ | (with_reducible refine RelA.rsl ?_; intro i hi) | (with_reducible refine RelA.arr ?_; intro i hi) | with_reducible refine RelA.pair ?_ ?_ | with_reducible refine RelA.rptr ?_ | (with_reducible refine RelA.rslw ?_; intro i hi) | (refine RelA.rsl ?_; intro i hi) | (refine RelA.rslw ?_; intro i hi) | (refine RelA.arr ?_; intro i hi) | refine RelA.pair ?_ ?_ | refine RelA.tup ?_ | ((first | refine RelA.rslL (by first | rfl | ((try simp only [List.length_take, List.length_drop, List.length_append, List.length_cons, List.length_nil, List.length_map, List.length_range]); omega)) ?_ | refine RelA.rslT (by first | rfl | ((try simp only [List.length_take, List.length_drop, List.length_append, List.length_cons, List.length_nil, List.length_map, List.length_range]); omega)) ?_ | refine RelA.arrL (by first | rfl | ((try simp only [List.length_take, List.length_drop, List.length_append, List.length_cons, List.length_nil, List.length_map, List.length_range]); omega)) ?_); intro i hi; (try simp only [List.length_take, List.length_drop] at hi); (try simp (disch := omega) only [getD_take, getD_drop, Nat.zero_add, Int.toNat_natCast])) | exact RelA.bif_int | refine RelA.fn ?_ ?_)) <;> (try with_reducible refine Keep.mk ?_)
    refine S_ ?_
    refine VC.cond (by rfl) (fun hb => ?_) (fun hb => ?_) <;> (try simp only [decide_eq_true_eq, decide_eq_false_iff_not, Bool.not_eq_true', Bool.not_eq_false'] at hb) <;> (try (exfalso; omega)) <;> (try (cases hb; done))
    repeat (first | with_reducible refine VC.seq ?_ | with_reducible refine VC.block ?_ | with_reducible refine VC.region ?_ | with_reducible refine thenQ_n ?_ | with_reducible refine VC.skip ?_)
    refine SQ_ ?_
    refine Seq.conv (Sim.ghost 4 16 (fun i => digA (([] : List (List UInt8)).getD i [])) (by rfl) (.inl rfl)) ?_
    refine Seq.conv (s' := ⟨[(5, .int .i64 1), (4, .sl 9 [] 16 0 0)], [(9, digsO 0 [])], gR, 10⟩) (by refine Sim.less [(9, 0)] (by rfl) ?_ ?_ <;> (repeat' (first | exact EnvLe.nil | exact HeapLe.nil | with_reducible apply EnvLe.cons | with_reducible apply HeapLe.cons | (with_reducible refine RelA.int ?_; first | (refine Keep.mk ?_; first | with_reducible rfl | omega | decide) | skip) | exact rfl | exact ⟨rfl, rfl⟩ | (with_reducible refine RelA.rsl ?_; intro i hi) | (with_reducible refine RelA.arr ?_; intro i hi) | with_reducible refine RelA.pair ?_ ?_ | with_reducible refine RelA.rptr ?_ | (with_reducible refine RelA.rslw ?_; intro i hi) | (refine RelA.rsl ?_; intro i hi) | (refine RelA.rslw ?_; intro i hi) | (refine RelA.arr ?_; intro i hi) | refine RelA.pair ?_ ?_ | refine RelA.tup ?_ | ((first | refine RelA.rslL (by first | rfl | ((try simp only [List.length_take, List.length_drop, List.length_append, List.length_cons, List.length_nil, List.length_map, List.length_range]); omega)) ?_ | refine RelA.rslT (by first | rfl | ((try simp only [List.length_take, List.length_drop, List.length_append, List.length_cons, List.length_nil, List.length_map, List.length_range]); omega)) ?_ | refine RelA.arrL (by first | rfl | ((try simp only [List.length_take, List.length_drop, List.length_append, List.length_cons, List.length_nil, List.length_map, List.length_range]); omega)) ?_); intro i hi; (try simp only [List.length_take, List.length_drop] at hi); (try simp (disch := omega) only [getD_take, getD_drop, Nat.zero_add, Int.toNat_natCast])) | exact RelA.bif_int | refine RelA.fn ?_ ?_)) <;> (try with_reducible refine Keep.mk ?_)) ?_
    refine S_ ?_
    exact retQ_ok (by rfl) [(9, digsO 0 [])] (subL_ok ⟨rfl, trivial⟩) ⟨rfl, rfl⟩
  · refine S_ ?_
    refine Seq.same 8 (u' := .bool false) (by rfl) (congrArg AV.bool (decide_eq_false (by omega))) ?_
    refine S_ ?_
    refine VC.cond (by rfl) (fun hb => ?_) (fun hb => ?_) <;> (try simp only [decide_eq_true_eq, decide_eq_false_iff_not, Bool.not_eq_true', Bool.not_eq_false'] at hb) <;> (try (exfalso; omega))
    refine S_ ?_
    refine VC.cond (by rfl) (fun hb => ?_) (fun hb => ?_) <;> (try simp only [decide_eq_true_eq, decide_eq_false_iff_not, Bool.not_eq_true', Bool.not_eq_false'] at hb) <;> (try (exfalso; omega))
    · have hl0 : l = [] := List.length_eq_zero_iff.1 (by omega)
      subst hl0
      rw [show longerR [] n = ([rootB []], 0) by unfold longerR; rw [if_neg h0]; rfl]
      refine S_ ?_
      refine Seq.callp false (refRoot_ok 0 [] rfl hl) Tryd.func12 gR_ok subG.refl (by rfl) (by rfl) rfl rfl rfl rfl rfl (by rfl) rfl VW_ NI_ NI_ FR_ ?_
      generalize rootB [] = X
      refine SQ_ ?_
      refine Seq.conv (s' := ⟨[(5, .int .i64 0), (4, .sl 9 [] 16 0 1)], [(9, digsO 1 [X])], gR, 10⟩) (by
        refine Sim.less [(9, 0)] (by rfl) ?_ ?_ <;> (repeat' (first | exact EnvLe.nil | exact HeapLe.nil | with_reducible apply EnvLe.cons | with_reducible apply HeapLe.cons | (with_reducible refine RelA.int ?_; first | (refine Keep.mk ?_; first | with_reducible rfl | omega | decide) | skip) | exact rfl | exact ⟨rfl, rfl⟩ | (with_reducible refine RelA.rsl ?_; intro i hi) | (with_reducible refine RelA.arr ?_; intro i hi) | with_reducible refine RelA.pair ?_ ?_ | with_reducible refine RelA.rptr ?_ | (with_reducible refine RelA.rslw ?_; intro i hi) | (refine RelA.rsl ?_; intro i hi) | (refine RelA.rslw ?_; intro i hi) | (refine RelA.arr ?_; intro i hi) | refine RelA.pair ?_ ?_ | refine RelA.tup ?_ | ((first | refine RelA.rslL (by first | rfl | ((try simp only [List.length_take, List.length_drop, List.length_append, List.length_cons, List.length_nil, List.length_map, List.length_range]); omega)) ?_ | refine RelA.rslT (by first | rfl | ((try simp only [List.length_take, List.length_drop, List.length_append, List.length_cons, List.length_nil, List.length_map, List.length_range]); omega)) ?_ | refine RelA.arrL (by first | rfl | ((try simp only [List.length_take, List.length_drop, List.length_append, List.length_cons, List.length_nil, List.length_map, List.length_range]); omega)) ?_); intro i hi; (try simp only [List.length_take, List.length_drop] at hi); (try simp (disch := omega) only [getD_take, getD_drop, Nat.zero_add, Int.toNat_natCast])) | exact RelA.bif_int | refine RelA.fn ?_ ?_)) <;> (try with_reducible refine Keep.mk ?_)
        obtain rfl : i = 0 := by omega
        exact NoId.self (fun _ _ => trivial)) ?_
      refine S_ ?_
      exact retQ_ok (by rfl) [(9, digsO 1 [X])] (subL_ok ⟨rfl, trivial⟩) ⟨rfl, rfl⟩
    · obtain ⟨q, rfl⟩ : ∃ q : Nat, n = q := ⟨n.toNat, by omega⟩
      rw [show longerR l q = (rootsD l (Tree.steps q 0 l.length), 0) by unfold longerR; rw [if_neg h0, if_neg (by omega)]; rfl]
      have h1 : (Tree.steps q 0 l.length).length ≤ l.length := rest_length q q 0 l.length (by omega)
      have c1 := refSteps_ok q (by omega) 0 l.length (by omega) (by omega) (by omega)
      have c2 := roots_ok l hl (Tree.steps q 0 l.length) (fun x hx => by have := Tree.rest_mem (p := q) (q := q) 0 l.length (by omega) x hx; omega) (by omega)
      have hlen : (rootsD l (Tree.steps q 0 l.length)).length = (Tree.steps q 0 l.length).length := by unfold rootsD; rw [List.length_map]
      rw [Nat.zero_add] at c1
      generalize rootsD l (Tree.steps q 0 l.length) = R at *
      generalize Tree.steps q 0 l.length = T at *
      rw [← hlen] at c1 c2
      refine S_ ?_
      refine Seq.calln false (c1) Tryd.func39 gR_ok subG.nil (by rfl) (by rfl) rfl rfl rfl rfl rfl (by rfl) rfl VW_ NI_ NI_ FR_ ?_
      refine S_ ?_
      refine Seq.calln true c2 Tryd.func35 gR_ok subG.refl (by rfl) (by rfl) rfl rfl rfl rfl rfl (by rfl) rfl ?_ (by repeat' (first | exact trivial | exact rfl | refine NoFr.bif ?_ ?_ | refine NoId.bif ?_ ?_ | refine AllFr.bif ?_ ?_ | (intro i hi) | (refine ⟨?_, ?_⟩) | (intro e; cases e; done))) (by repeat' (first | exact trivial | exact rfl | refine NoFr.bif ?_ ?_ | refine NoId.bif ?_ ?_ | refine AllFr.bif ?_ ?_ | (intro i hi) | (refine ⟨?_, ?_⟩) | (intro e; cases e; done))) FR_ ?_
      · repeat' (first | exact View.rel ⟨rfl, rfl⟩ | (refine View.sln (by rfl) (by rfl) (by (first | exact trivial | exact u8_in _ rfl | exact u32_in _ rfl | ((with_reducible refine AllP.guard ?_); simp only [AllP, inI, fitV, maxK, inK, inbL, inb, List.append, List.cons_append, List.nil_append, true_and, and_true]; first | done | omega))) ?_ ⟨rfl, rfl⟩ ?_ ?_) | exact View.nil | exact View.emp | refine View.pair ?_ ?_ | refine View.fn ?_ ?_ | refine View.ptr (by rfl) (by rfl) (by (first | exact trivial | exact u8_in _ rfl | exact u32_in _ rfl | ((with_reducible refine AllP.guard ?_); simp only [AllP, inI, fitV, maxK, inK, inbL, inb, List.append, List.cons_append, List.nil_append, true_and, and_true]; first | done | omega))) (by rfl) ⟨rfl, rfl⟩ ?_ | exact View.rel (NoId.self (by first | ((repeat' (first | exact trivial | exact rfl | refine NoFr.bif ?_ ?_ | refine NoId.bif ?_ ?_ | refine AllFr.bif ?_ ?_ | (intro i hi) | (refine ⟨?_, ?_⟩) | (intro e; cases e; done))); done) | fail)) | (exact NoId.self (by first | ((repeat' (first | exact trivial | exact rfl | refine NoFr.bif ?_ ?_ | refine NoId.bif ?_ ?_ | refine AllFr.bif ?_ ?_ | (intro i hi) | (refine ⟨?_, ?_⟩) | (intro e; cases e; done))); done) | fail)) | exact ⟨rfl, rfl⟩ | (refine View.rel ?_; repeat' (first | exact EnvLe.nil | exact HeapLe.nil | with_reducible apply EnvLe.cons | with_reducible apply HeapLe.cons | (with_reducible refine RelA.int ?_; first | (refine Keep.mk ?_; first | with_reducible rfl | omega | decide) | skip) | exact rfl | exact ⟨rfl, rfl⟩ | (with_reducible refine RelA.rsl ?_; intro i hi) | (with_reducible refine RelA.arr ?_; intro i hi) | with_reducible refine RelA.pair ?_ ?_ | with_reducible refine RelA.rptr ?_ | (with_reducible refine RelA.rslw ?_; intro i hi) | (refine RelA.rsl ?_; intro i hi) | (refine RelA.rslw ?_; intro i hi) | (refine RelA.arr ?_; intro i hi) | refine RelA.pair ?_ ?_ | refine RelA.tup ?_ | ((first | refine RelA.rslL (by first | rfl | ((try simp only [List.length_take, List.length_drop, List.length_append, List.length_cons, List.length_nil, List.length_map, List.length_range]); omega)) ?_ | refine RelA.rslT (by first | rfl | ((try simp only [List.length_take, List.length_drop, List.length_append, List.length_cons, List.length_nil, List.length_map, List.length_range]); omega)) ?_ | refine RelA.arrL (by first | rfl | ((try simp only [List.length_take, List.length_drop, List.length_append, List.length_cons, List.length_nil, List.length_map, List.length_range]); omega)) ?_); intro i hi; (try simp only [List.length_take, List.length_drop] at hi); (try simp (disch := omega) only [getD_take, getD_drop, Nat.zero_add, Int.toNat_natCast])) | exact RelA.bif_int | refine RelA.fn ?_ ?_)) <;> (try with_reducible refine Keep.mk ?_))
        · omega
        · exact hlen.symm
        · intro i hi
          rw [Nat.zero_add]
          exact pairA_self
      refine SQ_ ?_
      refine Seq.conv (s' := ⟨[(5, .int .i64 0), (4, .sl 9 [] 16 0 R.length)], [(9, digsO R.length R)], gR, 10⟩) (by refine Sim.less [(9, 1)] (by rfl) ?_ ?_ <;> (repeat' (first | exact EnvLe.nil | exact HeapLe.nil | with_reducible apply EnvLe.cons | with_reducible apply HeapLe.cons | (with_reducible refine RelA.int ?_; first | (refine Keep.mk ?_; first | with_reducible rfl | omega | decide) | skip) | exact rfl | exact ⟨rfl, rfl⟩ | (with_reducible refine RelA.rsl ?_; intro i hi) | (with_reducible refine RelA.arr ?_; intro i hi) | with_reducible refine RelA.pair ?_ ?_ | with_reducible refine RelA.rptr ?_ | (with_reducible refine RelA.rslw ?_; intro i hi) | (refine RelA.rsl ?_; intro i hi) | (refine RelA.rslw ?_; intro i hi) | (refine RelA.arr ?_; intro i hi) | refine RelA.pair ?_ ?_ | refine RelA.tup ?_ | ((first | refine RelA.rslL (by first | rfl | ((try simp only [List.length_take, List.length_drop, List.length_append, List.length_cons, List.length_nil, List.length_map, List.length_range]); omega)) ?_ | refine RelA.rslT (by first | rfl | ((try simp only [List.length_take, List.length_drop, List.length_append, List.length_cons, List.length_nil, List.length_map, List.length_range]); omega)) ?_ | refine RelA.arrL (by first | rfl | ((try simp only [List.length_take, List.length_drop, List.length_append, List.length_cons, List.length_nil, List.length_map, List.length_range]); omega)) ?_); intro i hi; (try simp only [List.length_take, List.length_drop] at hi); (try simp (disch := omega) only [getD_take, getD_drop, Nat.zero_add, Int.toNat_natCast])) | exact RelA.bif_int | refine RelA.fn ?_ ?_)) <;> (try with_reducible refine Keep.mk ?_)) ?_
      refine S_ ?_
      exact retQ_ok (by rfl) [(9, digsO R.length R)] (subL_ok ⟨rfl, trivial⟩) ⟨rfl, rfl⟩
end Go.Proofs.YtbphmbmdkojbnaaDoor
