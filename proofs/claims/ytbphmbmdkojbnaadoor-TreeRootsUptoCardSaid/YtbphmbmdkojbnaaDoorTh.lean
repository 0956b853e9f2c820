
/- tree.Prove; dioramaref39.Rest, Steps. -/
import Derived.Test.YtbphmbmdkojbnaaDoorTg
set_option linter.unusedSimpArgs false
set_option linter.unusedVariables false
namespace Go.Proofs.YtbphmbmdkojbnaaDoor
open Go.V Go.RowKit Go.U Go.L
def resP (n p : Int) (m : Nat) (e : Int) : AV := .tup (.pair (.pair (.int .i64 n) (.pair (.int .i64 p) (.pair (.sl 9 [] 16 0 m) .nul))) (.pair (.int .i64 e) .nul))
set_option maxRecDepth 10000 in
theorem prove_yes (l : List (List UInt8)) (hl : LOk l) (hl2 : l.length ≤ 1000000000) (p q : Nat) (hpq : p < q) (hq : q ≤ l.length) (R : List (List UInt8)) (hR : R = rootsD l (Tree.rest p q 0 l.length)) :
    Ok Tryd.prog 13 gK [] (.pair (strs l) (.pair (.int .i64 (p : Nat)) (.pair (.int .i64 (q : Nat)) .nul))) (fun r h' => r = resP l.length p R.length 0 ∧ h' = [(9, digsO R.length R)]) := by
  have c1 := walkProve_ok l hl l.length p q hpq hq 0 l.length (by omega) (by omega) [] (by show 0 + _ ≤ _; omega)
  rw [Nat.zero_add, List.nil_append, ← hR] at c1
  clear hR
  refine Ok.of_vc tt_ok Tryd.func13 rfl rfl (by show 3 ≤ _; decide) 0 (fun i av h => by cases h) fun c0 => ?_
  refine S_ ?_
  refine Seq.same 11 (u' := .bool false) (by rfl) (congrArg AV.bool (decide_eq_false (by omega))) ?_
  refine S_ ?_
  refine Seq.same 16 (u' := .bool false) (by rfl) (congrArg AV.bool (decide_eq_false (by omega))) ?_
  refine S_ ?_
  refine VC.cond (by rfl) (fun hb => ?_) (fun hb => ?_) <;> (try simp only [decide_eq_true_eq, decide_eq_false_iff_not, Bool.not_eq_true', Bool.not_eq_false'] at hb) <;> (try (exfalso; omega))
  refine S_ ?_
  refine Seq.conv (Sim.ghostF 4 2 16 (fun i => digA (([] : List (List UInt8)).getD i [])) (by rfl) (by rfl) (by rfl)) ?_
  refine Seq.callo true [(0, 4), (1, 5)] [(6, 9), (4, 0)] (.nul) ([(4, proofA l.length p (.sl 6 [] 16 0 R.length)), (6, digsO R.length R)]) 7 (c1) Tryd.func32 gK_ok subG.refl (by rfl) (by rfl) rfl rfl rfl rfl rfl (by rfl) rfl (by rfl) (by rfl) (by rfl) (by rfl) VW_ NI_ R_ (noFrL_ok NI_) BK_ ?_
  refine Seq.nil ?_
  refine thenQ_n ?_
  refine VC.conv (s' := ⟨[(8, .ptr 4 []), (6, .ptr 3 [])], [(3, proofA 0 0 (.val (.slice none 0 0))), (4, proofA l.length p (.sl 9 [] 16 0 R.length)), (9, digsO R.length R)], gK, 10⟩) (by refine Sim.less [(9, 6)] (by rfl) ?_ ?_ <;> (repeat' (first | exact EnvLe.nil | exact HeapLe.nil | with_reducible apply EnvLe.cons | with_reducible apply HeapLe.cons | (with_reducible refine RelA.int ?_; first | (refine Keep.mk ?_; first | with_reducible rfl | omega | decide) | skip) | exact rfl | exact ⟨rfl, rfl⟩ | (with_reducible refine RelA.rsl ?_; intro i hi) | (with_reducible refine RelA.arr ?_; intro i hi) | with_reducible refine RelA.pair ?_ ?_ | with_reducible refine RelA.rptr ?_ | (with_reducible refine RelA.rslw ?_; intro i hi) | (refine RelA.rsl ?_; intro i hi) | (refine RelA.rslw ?_; intro i hi) | (refine RelA.arr ?_; intro i hi) | refine RelA.pair ?_ ?_ | refine RelA.tup ?_ | ((first | refine RelA.rslL (by first | rfl | ((try simp only [List.length_take, List.length_drop, List.length_append, List.length_cons, List.length_nil, List.length_map, List.length_range]); omega)) ?_ | refine RelA.rslT (by first | rfl | ((try simp only [List.length_take, List.length_drop, List.length_append, List.length_cons, List.length_nil, List.length_map, List.length_range]); omega)) ?_ | refine RelA.arrL (by first | rfl | ((try simp only [List.length_take, List.length_drop, List.length_append, List.length_cons, List.length_nil, List.length_map, List.length_range]); omega)) ?_); intro i hi; (try simp only [List.length_take, List.length_drop] at hi); (try simp (disch := omega) only [getD_take, getD_drop, Nat.zero_add, Int.toNat_natCast])) | exact RelA.bif_int | refine RelA.fn ?_ ?_)) <;> (try with_reducible refine Keep.mk ?_)) ?_
  refine S_ ?_
  exact retQ_ok (by rfl) [(9, digsO R.length R)] (subL_ok ⟨rfl, trivial⟩) ⟨rfl, rfl⟩
set_option maxRecDepth 10000 in
theorem prove_no (l : List (List UInt8)) (hl2 : l.length ≤ 1000000000) (p q : Int) (h : p < 0 ∨ q ≤ p ∨ (l.length : Int) < q) :
    Ok Tryd.prog 13 gK [] (.pair (strs l) (.pair (.int .i64 p) (.pair (.int .i64 q) .nul))) (fun r h' => r = resP 0 0 0 1 ∧ h' = [(9, digsO 0 [])]) := by
  refine Ok.of_vc tt_ok Tryd.func13 rfl rfl (by show 3 ≤ _; decide) 0 (fun i av h => by cases h) fun c0 => ?_
  refine S_ ?_
  refine Seq.join (X := Unit) (fun _ => ⟨[(21, .bool true), (7, .int .i64 0), (6, .ptr 3 [])], [(3, proofA 0 0 (.val (.slice none 0 0)))], gK, 4⟩) (fun _ => True) ?_ fun _ _ => ?_
  · by_cases h1 : p < 0
    · refine Seq.same 11 (u' := .bool true) (by rfl) (congrArg AV.bool (decide_eq_true h1)) ?_
      refine S_ ?_
      refine ⟨(), trivial, ?_⟩
      refine Sim.less [] (by rfl) ?_ ?_ <;> (repeat' (first | exact EnvLe.nil | exact HeapLe.nil | with_reducible apply EnvLe.cons | with_reducible apply HeapLe.cons | (with_reducible refine RelA.int ?_; first | (refine Keep.mk ?_; first | with_reducible rfl | omega | decide) | skip) | exact rfl | exact ⟨rfl, rfl⟩ | (with_reducible refine RelA.rsl ?_; intro i hi) | (with_reducible refine RelA.arr ?_; intro i hi) | with_reducible refine RelA.pair ?_ ?_ | with_reducible refine RelA.rptr ?_ | (with_reducible refine RelA.rslw ?_; intro i hi) | (refine RelA.rsl ?_; intro i hi) | (refine RelA.rslw ?_; intro i hi) | (refine RelA.arr ?_; intro i hi) | refine RelA.pair ?_ ?_ | refine RelA.tup ?_ | ((first | refine RelA.rslL (by first | rfl | ((try simp only [List.length_take, List.length_drop, List.length_append, List.length_cons, List.length_nil, List.length_map, List.length_range]); omega)) ?_ | refine RelA.rslT (by first | rfl | ((try simp only [List.length_take, List.length_drop, List.length_append, List.length_cons, List.length_nil, List.length_map, List.length_range]); omega)) ?_ | refine RelA.arrL (by first | rfl | ((try simp only [List.length_take, List.length_drop, List.length_append, List.length_cons, List.length_nil, List.length_map, List.length_range]); omega)) ?_); intro i hi; (try simp only [List.length_take, List.length_drop] at hi); (try simp (disch := omega) only [getD_take, getD_drop, Nat.zero_add, Int.toNat_natCast])) | exact RelA.bif_int | refine RelA.fn ?_ ?_)) <;> (try with_reducible refine Keep.mk ?_)
    · refine Seq.same 11 (u' := .bool false) (by rfl) (congrArg AV.bool (decide_eq_false h1)) ?_
      refine S_ ?_
      by_cases h2 : q ≤ p
      · refine Seq.same 16 (u' := .bool true) (by rfl) (congrArg AV.bool (decide_eq_true h2)) ?_
        refine S_ ?_
        refine ⟨(), trivial, ?_⟩
        refine Sim.less [] (by rfl) ?_ ?_ <;> (repeat' (first | exact EnvLe.nil | exact HeapLe.nil | with_reducible apply EnvLe.cons | with_reducible apply HeapLe.cons | (with_reducible refine RelA.int ?_; first | (refine Keep.mk ?_; first | with_reducible rfl | omega | decide) | skip) | exact rfl | exact ⟨rfl, rfl⟩ | (with_reducible refine RelA.rsl ?_; intro i hi) | (with_reducible refine RelA.arr ?_; intro i hi) | with_reducible refine RelA.pair ?_ ?_ | with_reducible refine RelA.rptr ?_ | (with_reducible refine RelA.rslw ?_; intro i hi) | (refine RelA.rsl ?_; intro i hi) | (refine RelA.rslw ?_; intro i hi) | (refine RelA.arr ?_; intro i hi) | refine RelA.pair ?_ ?_ | refine RelA.tup ?_ | ((first | refine RelA.rslL (by first | rfl | ((try simp only [List.length_take, List.length_drop, List.length_append, List.length_cons, List.length_nil, List.length_map, List.length_range]); omega)) ?_ | refine RelA.rslT (by first | rfl | ((try simp only [List.length_take, List.length_drop, List.length_append, List.length_cons, List.length_nil, List.length_map, List.length_range]); omega)) ?_ | refine RelA.arrL (by first | rfl | ((try simp only [List.length_take, List.length_drop, List.length_append, List.length_cons, List.length_nil, List.length_map, List.length_range]); omega)) ?_); intro i hi; (try simp only [List.length_take, List.length_drop] at hi); (try simp (disch := omega) only [getD_take, getD_drop, Nat.zero_add, Int.toNat_natCast])) | exact RelA.bif_int | refine RelA.fn ?_ ?_)) <;> (try with_reducible refine Keep.mk ?_)
      · refine Seq.same 16 (u' := .bool false) (by rfl) (congrArg AV.bool (decide_eq_false h2)) ?_
        refine S_ ?_
        refine ⟨(), trivial, ?_⟩
        have h3 : (l.length : Int) < q := by omega
        rw [decide_eq_true h3]
        refine Sim.less [] (by rfl) ?_ ?_ <;> (repeat' (first | exact EnvLe.nil | exact HeapLe.nil | with_reducible apply EnvLe.cons | with_reducible apply HeapLe.cons | (with_reducible refine RelA.int ?_; first | (refine Keep.mk ?_; first | with_reducible rfl | omega | decide) | skip) | exact rfl | exact ⟨rfl, rfl⟩ | (with_reducible refine RelA.rsl ?_; intro i hi) | (with_reducible refine RelA.arr ?_; intro i hi) | with_reducible refine RelA.pair ?_ ?_ | with_reducible refine RelA.rptr ?_ | (with_reducible refine RelA.rslw ?_; intro i hi) | (refine RelA.rsl ?_; intro i hi) | (refine RelA.rslw ?_; intro i hi) | (refine RelA.arr ?_; intro i hi) | refine RelA.pair ?_ ?_ | refine RelA.tup ?_ | ((first | refine RelA.rslL (by first | rfl | ((try simp only [List.length_take, List.length_drop, List.length_append, List.length_cons, List.length_nil, List.length_map, List.length_range]); omega)) ?_ | refine RelA.rslT (by first | rfl | ((try simp only [List.length_take, List.length_drop, List.length_append, List.length_cons, List.length_nil, List.length_map, List.length_range]); omega)) ?_ | refine RelA.arrL (by first | rfl | ((try simp only [List.length_take, List.length_drop, List.length_append, List.length_cons, List.length_nil, List.length_map, List.length_range]); omega)) ?_); intro i hi; (try simp only [List.length_take, List.length_drop] at hi); (try simp (disch := omega) only [getD_take, getD_drop, Nat.zero_add, Int.toNat_natCast])) | exact RelA.bif_int | refine RelA.fn ?_ ?_)) <;> (try with_reducible refine Keep.mk ?_)
  refine S_ ?_
  refine VC.cond (by rfl) (fun hb => ?_) (fun hb => ?_) <;> (try simp only [decide_eq_true_eq, decide_eq_false_iff_not, Bool.not_eq_true', Bool.not_eq_false'] at hb) <;> (try (exfalso; omega)) <;> (try (cases hb; done))
  repeat (first | with_reducible refine VC.seq ?_ | with_reducible refine VC.block ?_ | with_reducible refine VC.region ?_ | with_reducible refine thenQ_n ?_ | with_reducible refine VC.skip ?_)
  refine SQ_ ?_
  refine Seq.conv (Sim.ghostF 3 2 16 (fun i => digA (([] : List (List UInt8)).getD i [])) (by rfl) (by rfl) (by rfl)) ?_
  refine Seq.conv (s' := ⟨[(7, .int .i64 1), (6, .ptr 3 [])], [(3, proofA 0 0 (.sl 9 [] 16 0 0)), (9, digsO 0 [])], gK, 10⟩) (by refine Sim.less [(9, 4)] (by rfl) ?_ ?_ <;> (repeat' (first | exact EnvLe.nil | exact HeapLe.nil | with_reducible apply EnvLe.cons | with_reducible apply HeapLe.cons | (with_reducible refine RelA.int ?_; first | (refine Keep.mk ?_; first | with_reducible rfl | omega | decide) | skip) | exact rfl | exact ⟨rfl, rfl⟩ | (with_reducible refine RelA.rsl ?_; intro i hi) | (with_reducible refine RelA.arr ?_; intro i hi) | with_reducible refine RelA.pair ?_ ?_ | with_reducible refine RelA.rptr ?_ | (with_reducible refine RelA.rslw ?_; intro i hi) | (refine RelA.rsl ?_; intro i hi) | (refine RelA.rslw ?_; intro i hi) | (refine RelA.arr ?_; intro i hi) | refine RelA.pair ?_ ?_ | refine RelA.tup ?_ | ((first | refine RelA.rslL (by first | rfl | ((try simp only [List.length_take, List.length_drop, List.length_append, List.length_cons, List.length_nil, List.length_map, List.length_range]); omega)) ?_ | refine RelA.rslT (by first | rfl | ((try simp only [List.length_take, List.length_drop, List.length_append, List.length_cons, List.length_nil, List.length_map, List.length_range]); omega)) ?_ | refine RelA.arrL (by first | rfl | ((try simp only [List.length_take, List.length_drop, List.length_append, List.length_cons, List.length_nil, List.length_map, List.length_range]); omega)) ?_); intro i hi; (try simp only [List.length_take, List.length_drop] at hi); (try simp (disch := omega) only [getD_take, getD_drop, Nat.zero_add, Int.toNat_natCast])) | exact RelA.bif_int | refine RelA.fn ?_ ?_)) <;> (try with_reducible refine Keep.mk ?_)) ?_
  refine S_ ?_
  exact retQ_ok (by rfl) [(9, digsO 0 [])] (subL_ok ⟨rfl, trivial⟩) ⟨rfl, rfl⟩
/- The reference: Rest, Steps. -/
def pairA (x : Nat × Nat) : AV := .arr 2 1 (fun i => .int .i64 (bif Nat.beq i 0 then (x.1 : Int) else (x.2 : Int)))
def pairsO (m : Nat) (R : List (Nat × Nat)) : AV := .arr m 2 (fun i => pairA (R.getD i (0, 0)))
theorem relA_pair {A : Nat → Prop} {σ : Nat → Nat} {x : Nat × Nat} {f : Nat → AV} (h0 : f 0 = .int .i64 (x.1 : Nat)) (h1 : f 1 = .int .i64 (x.2 : Nat)) : RelA A σ (pairA x) (.arr 2 1 f) := by
  refine RelA.arr fun i hi => ?_
  rcases (by omega : i = 0 ∨ i = 1) with rfl | rfl
  · rw [h0]; exact rfl
  · rw [h1]; exact rfl
theorem pairA_self {A : Nat → Prop} {σ : Nat → Nat} {x : Nat × Nat} : RelA A σ (pairA x) (pairA x) := relA_pair rfl rfl
set_option maxRecDepth 10000 in
theorem refRest_ok (p q : Nat) (hb : p ≤ 1099511627776 ∧ q ≤ 1099511627776) : ∀ a n, 1 ≤ n → a + n ≤ 1099511627776 → (Tree.rest p q a n).length ≤ 1000000000 →
    Ok Tryd.prog 36 [] [] (.pair (.int .i64 (a : Nat)) (.pair (.int .i64 ((a + n : Nat) : Int)) (.pair (.int .i64 (p : Nat)) (.pair (.int .i64 (q : Nat)) .nul)))) (fun r h' => r = .sl 9 [] 2 0 (Tree.rest p q a n).length ∧ h' = [(9, pairsO (Tree.rest p q a n).length (Tree.rest p q a n))]) := by
  refine Tree.ind (P := fun a n => a + n ≤ 1099511627776 → (Tree.rest p q a n).length ≤ 1000000000 → _) fun a n hn ih hal hlen => ?_
  refine Ok.of_vc tt_ok Tryd.func36 rfl rfl (by show 4 ≤ _; decide) 0 (fun i av h => by cases h) fun c0 => ?_
  by_cases h0 : a + n ≤ p ∨ q ≤ a
  · rw [Tree.rest_out hn h0]
    refine S_ ?_
    refine Seq.join (X := Unit) (fun _ => ⟨[(17, .bool true), (1, .int .i64 ((a + n : Nat) : Int)), (0, .int .i64 (a : Nat))], [], [], 0⟩) (fun _ => True) ?_ fun _ _ => ?_
    · by_cases h1 : ((a + n : Nat) : Int) ≤ (p : Int)
      · refine Seq.same 13 (u' := .bool true) (by rfl) (congrArg AV.bool (decide_eq_true h1)) ?_
        refine S_ ?_
        refine ⟨(), trivial, ?_⟩
        refine Sim.less [] (by rfl) ?_ ?_ <;> (repeat' (first | exact EnvLe.nil | exact HeapLe.nil | with_reducible apply EnvLe.cons | with_reducible apply HeapLe.cons | (with_reducible refine RelA.int ?_; first | (refine Keep.mk ?_; first | with_reducible rfl | omega | decide) | skip) | exact rfl | exact ⟨rfl, rfl⟩ | (with_reducible refine RelA.rsl ?_; intro i hi) | (with_reducible refine RelA.arr ?_; intro i hi) | with_reducible refine RelA.pair ?_ ?_ | with_reducible refine RelA.rptr ?_ | (with_reducible refine RelA.rslw ?_; intro i hi) | (refine RelA.rsl ?_; intro i hi) | (refine RelA.rslw ?_; intro i hi) | (refine RelA.arr ?_; intro i hi) | refine RelA.pair ?_ ?_ | refine RelA.tup ?_ | ((first | refine RelA.rslL (by first | rfl | ((try simp only [List.length_take, List.length_drop, List.length_append, List.length_cons, List.length_nil, List.length_map, List.length_range]); omega)) ?_ | refine RelA.rslT (by first | rfl | ((try simp only [List.length_take, List.length_drop, List.length_append, List.length_cons, List.length_nil, List.length_map, List.length_range]); omega)) ?_ | refine RelA.arrL (by first | rfl | ((try simp only [List.length_take, List.length_drop, List.length_append, List.length_cons, List.length_nil, List.length_map, List.length_range]); omega)) ?_); intro i hi; (try simp only [List.length_take, List.length_drop] at hi); (try simp (disch := omega) only [getD_take, getD_drop, Nat.zero_add, Int.toNat_natCast])) | exact RelA.bif_int | refine RelA.fn ?_ ?_)) <;> (try with_reducible refine Keep.mk ?_)
      · refine Seq.same 13 (u' := .bool false) (by rfl) (congrArg AV.bool (decide_eq_false h1)) ?_
        refine S_ ?_
        refine ⟨(), trivial, ?_⟩
        have h2 : (q : Int) ≤ (a : Int) := by omega
        rw [decide_eq_true h2]
        refine Sim.less [] (by rfl) ?_ ?_ <;> (repeat' (first | exact EnvLe.nil | exact HeapLe.nil | with_reducible apply EnvLe.cons | with_reducible apply HeapLe.cons | (with_reducible refine RelA.int ?_; first | (refine Keep.mk ?_; first | with_reducible rfl | omega | decide) | skip) | exact rfl | exact ⟨rfl, rfl⟩ | (with_reducible refine RelA.rsl ?_; intro i hi) | (with_reducible refine RelA.arr ?_; intro i hi) | with_reducible refine RelA.pair ?_ ?_ | with_reducible refine RelA.rptr ?_ | (with_reducible refine RelA.rslw ?_; intro i hi) | (refine RelA.rsl ?_; intro i hi) | (refine RelA.rslw ?_; intro i hi) | (refine RelA.arr ?_; intro i hi) | refine RelA.pair ?_ ?_ | refine RelA.tup ?_ | ((first | refine RelA.rslL (by first | rfl | ((try simp only [List.length_take, List.length_drop, List.length_append, List.length_cons, List.length_nil, List.length_map, List.length_range]); omega)) ?_ | refine RelA.rslT (by first | rfl | ((try simp only [List.length_take, List.length_drop, List.length_append, List.length_cons, List.length_nil, List.length_map, List.length_range]); omega)) ?_ | refine RelA.arrL (by first | rfl | ((try simp only [List.length_take, List.length_drop, List.length_append, List.length_cons, List.length_nil, List.length_map, List.length_range]); omega)) ?_); intro i hi; (try simp only [List.length_take, List.length_drop] at hi); (try simp (disch := omega) only [getD_take, getD_drop, Nat.zero_add, Int.toNat_natCast])) | exact RelA.bif_int | refine RelA.fn ?_ ?_)) <;> (try with_reducible refine Keep.mk ?_)
    refine S_ ?_
    refine VC.cond (by rfl) (fun hb => ?_) (fun hb => ?_) <;> (try simp only [decide_eq_true_eq, decide_eq_false_iff_not, Bool.not_eq_true', Bool.not_eq_false'] at hb) <;> (try (exfalso; omega)) <;> (try (cases hb; done))
    repeat (first | with_reducible refine VC.seq ?_ | with_reducible refine VC.block ?_ | with_reducible refine VC.region ?_ | with_reducible refine thenQ_n ?_ | with_reducible refine VC.skip ?_)
    refine SQ_ ?_
    refine Seq.conv (s' := ⟨[(8, .sl 9 [] 2 0 1)], [(9, pairsO 1 [(a, a + n)])], [], 10⟩) (by
      refine Sim.less [(9, 0)] (by rfl) ?_ ?_ <;> (repeat' (first | exact EnvLe.nil | exact HeapLe.nil | with_reducible apply EnvLe.cons | with_reducible apply HeapLe.cons | (with_reducible refine RelA.int ?_; first | (refine Keep.mk ?_; first | with_reducible rfl | omega | decide) | skip) | exact rfl | exact ⟨rfl, rfl⟩ | (with_reducible refine RelA.rsl ?_; intro i hi) | (with_reducible refine RelA.arr ?_; intro i hi) | with_reducible refine RelA.pair ?_ ?_ | with_reducible refine RelA.rptr ?_ | (with_reducible refine RelA.rslw ?_; intro i hi) | (refine RelA.rsl ?_; intro i hi) | (refine RelA.rslw ?_; intro i hi) | (refine RelA.arr ?_; intro i hi) | refine RelA.pair ?_ ?_ | refine RelA.tup ?_ | ((first | refine RelA.rslL (by first | rfl | ((try simp only [List.length_take, List.length_drop, List.length_append, List.length_cons, List.length_nil, List.length_map, List.length_range]); omega)) ?_ | refine RelA.rslT (by first | rfl | ((try simp only [List.length_take, List.length_drop, List.length_append, List.length_cons, List.length_nil, List.length_map, List.length_range]); omega)) ?_ | refine RelA.arrL (by first | rfl | ((try simp only [List.length_take, List.length_drop, List.length_append, List.length_cons, List.length_nil, List.length_map, List.length_range]); omega)) ?_); intro i hi; (try simp only [List.length_take, List.length_drop] at hi); (try simp (disch := omega) only [getD_take, getD_drop, Nat.zero_add, Int.toNat_natCast])) | exact RelA.bif_int | refine RelA.fn ?_ ?_)) <;> (try with_reducible refine Keep.mk ?_)
      obtain rfl : i = 0 := by omega
      exact relA_pair rfl rfl) ?_
    refine S_ ?_
    exact retQ_ok (by rfl) [(9, pairsO 1 [(a, a + n)])] (subL_ok ⟨rfl, trivial⟩) ⟨rfl, rfl⟩
  refine S_ ?_
  refine Seq.same 13 (u' := .bool false) (by rfl) (congrArg AV.bool (decide_eq_false (by omega))) ?_
  refine S_ ?_
  refine VC.cond (by rfl) (fun hb => ?_) (fun hb => ?_) <;> (try simp only [decide_eq_true_eq, decide_eq_false_iff_not, Bool.not_eq_true', Bool.not_eq_false'] at hb) <;> (try (exfalso; omega))
  refine S_ ?_
  refine VC.cond (by rfl) (fun hb => ?_) (fun hb => ?_) <;> (try simp only [decide_eq_true_eq, decide_eq_false_iff_not, Bool.not_eq_true', Bool.not_eq_false'] at hb) <;> (try (exfalso; omega))
  · have h1 : n = 1 := by omega
    subst h1
    rw [Tree.rest_one h0]
    repeat (first | with_reducible refine VC.seq ?_ | with_reducible refine VC.block ?_ | with_reducible refine VC.region ?_ | with_reducible refine thenQ_n ?_ | with_reducible refine VC.skip ?_)
    refine SQ_ ?_
    refine Seq.conv (Sim.ghost 8 2 (fun i => pairA (([] : List (Nat × Nat)).getD i (0, 0))) (by rfl) (.inl rfl)) ?_
    refine Seq.conv (s' := ⟨[(8, .sl 9 [] 2 0 0)], [(9, pairsO 0 [])], [], 10⟩) (by refine Sim.less [(9, 0)] (by rfl) ?_ ?_ <;> (repeat' (first | exact EnvLe.nil | exact HeapLe.nil | with_reducible apply EnvLe.cons | with_reducible apply HeapLe.cons | (with_reducible refine RelA.int ?_; first | (refine Keep.mk ?_; first | with_reducible rfl | omega | decide) | skip) | exact rfl | exact ⟨rfl, rfl⟩ | (with_reducible refine RelA.rsl ?_; intro i hi) | (with_reducible refine RelA.arr ?_; intro i hi) | with_reducible refine RelA.pair ?_ ?_ | with_reducible refine RelA.rptr ?_ | (with_reducible refine RelA.rslw ?_; intro i hi) | (refine RelA.rsl ?_; intro i hi) | (refine RelA.rslw ?_; intro i hi) | (refine RelA.arr ?_; intro i hi) | refine RelA.pair ?_ ?_ | refine RelA.tup ?_ | ((first | refine RelA.rslL (by first | rfl | ((try simp only [List.length_take, List.length_drop, List.length_append, List.length_cons, List.length_nil, List.length_map, List.length_range]); omega)) ?_ | refine RelA.rslT (by first | rfl | ((try simp only [List.length_take, List.length_drop, List.length_append, List.length_cons, List.length_nil, List.length_map, List.length_range]); omega)) ?_ | refine RelA.arrL (by first | rfl | ((try simp only [List.length_take, List.length_drop, List.length_append, List.length_cons, List.length_nil, List.length_map, List.length_range]); omega)) ?_); intro i hi; (try simp only [List.length_take, List.length_drop] at hi); (try simp (disch := omega) only [getD_take, getD_drop, Nat.zero_add, Int.toNat_natCast])) | exact RelA.bif_int | refine RelA.fn ?_ ?_)) <;> (try with_reducible refine Keep.mk ?_)) ?_
    refine S_ ?_
    exact retQ_ok (by rfl) [(9, pairsO 0 [])] (subL_ok ⟨rfl, trivial⟩) ⟨rfl, rfl⟩
  · have q1 := Tree.half_lt (n := n) (by omega)
    have q2 := Tree.half_pos (n := n) (by omega)
    have e1 : (((a + n : Nat) : Int) - (a : Int)) = ((n : Nat) : Int) := by omega
    have c3 := refHalf_ok n (by omega) (by omega)
    have hr := Tree.rest_node (p := p) (q := q) (a := a) (n := n) (by omega) h0
    rw [hr] at hlen
    rw [List.length_append] at hlen
    have i1 := ih a (Tree.half n) q2 q1 (by omega) (by omega)
    have i2 := ih (a + Tree.half n) (n - Tree.half n) (by omega) (by omega) (by omega) (by omega)
    rw [show a + Tree.half n + (n - Tree.half n) = a + n by omega] at i2
    rw [hr, List.length_append]
    generalize Tree.rest p q a (Tree.half n) = R1 at *
    generalize Tree.rest p q (a + Tree.half n) (n - Tree.half n) = R2 at *
    generalize Tree.half n = k at *
    refine S_ ?_
    rw [e1]
    refine Seq.callp false (c3) Tryd.func30 GOk.nil subG.nil (by rfl) (by rfl) rfl rfl rfl rfl rfl (by rfl) rfl VW_ NI_ NI_ FR_ ?_
    refine S_ ?_
    refine Seq.calln false (i1) Tryd.func36 GOk.nil subG.nil (by rfl) (by rfl) rfl rfl rfl rfl rfl (by rfl) rfl VW_ NI_ NI_ FR_ ?_
    refine S_ ?_
    refine Seq.calln false (i2) Tryd.func36 GOk.nil subG.nil (by rfl) (by rfl) rfl rfl rfl rfl rfl (by rfl) rfl VW_ NI_ NI_ FR_ ?_
    refine SQ_ ?_
    refine Seq.conv (s' := ⟨[(8, .sl 9 [] 2 0 (R1.length + R2.length))], [(9, pairsO (R1.length + R2.length) (R1 ++ R2))], [], 10⟩) (by
      refine Sim.less [(9, 2)] (by rfl) ?_ ?_ <;> (repeat' (first | exact EnvLe.nil | exact HeapLe.nil | with_reducible apply EnvLe.cons | with_reducible apply HeapLe.cons | (with_reducible refine RelA.int ?_; first | (refine Keep.mk ?_; first | with_reducible rfl | omega | decide) | skip) | exact rfl | exact ⟨rfl, rfl⟩ | (with_reducible refine RelA.rsl ?_; intro i hi) | (with_reducible refine RelA.arr ?_; intro i hi) | with_reducible refine RelA.pair ?_ ?_ | with_reducible refine RelA.rptr ?_ | (with_reducible refine RelA.rslw ?_; intro i hi) | (refine RelA.rsl ?_; intro i hi) | (refine RelA.rslw ?_; intro i hi) | (refine RelA.arr ?_; intro i hi) | refine RelA.pair ?_ ?_ | refine RelA.tup ?_ | ((first | refine RelA.rslL (by first | rfl | ((try simp only [List.length_take, List.length_drop, List.length_append, List.length_cons, List.length_nil, List.length_map, List.length_range]); omega)) ?_ | refine RelA.rslT (by first | rfl | ((try simp only [List.length_take, List.length_drop, List.length_append, List.length_cons, List.length_nil, List.length_map, List.length_range]); omega)) ?_ | refine RelA.arrL (by first | rfl | ((try simp only [List.length_take, List.length_drop, List.length_append, List.length_cons, List.length_nil, List.length_map, List.length_range]); omega)) ?_); intro i hi; (try simp only [List.length_take, List.length_drop] at hi); (try simp (disch := omega) only [getD_take, getD_drop, Nat.zero_add, Int.toNat_natCast])) | exact RelA.bif_int | refine RelA.fn ?_ ?_)) <;> (try with_reducible refine Keep.mk ?_)
      exact RelA.of_eq pairA_self (joinF_appG (F := pairA) (d0 := (0, 0)) rfl rfl (fun j hj => congrArg (fun z => pairA (R2.getD z (0, 0))) (Nat.zero_add j)) hi)) ?_
    refine S_ ?_
    exact retQ_ok (by rfl) [(9, pairsO (R1.length + R2.length) (R1 ++ R2))] (subL_ok ⟨rfl, trivial⟩) ⟨rfl, rfl⟩
end Go.Proofs.YtbphmbmdkojbnaaDoor
