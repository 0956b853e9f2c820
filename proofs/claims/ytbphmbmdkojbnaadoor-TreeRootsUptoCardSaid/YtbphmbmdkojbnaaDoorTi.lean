
/- dioramaref39.Steps, roots, Prove. -/
import Derived.Test.YtbphmbmdkojbnaaDoorTh
set_option linter.unusedSimpArgs false
set_option linter.unusedVariables false
namespace Go.Proofs.YtbphmbmdkojbnaaDoor
open Go.V Go.RowKit Go.U Go.L
set_option maxRecDepth 10000 in
theorem refSteps_ok (m : Nat) (hb : m ≤ 1099511627776) : ∀ a n, 1 ≤ n → a + n ≤ 1099511627776 → (Tree.steps m a n).length ≤ 1000000000 →
    Ok Tryd.prog 39 [] [] (.pair (.int .i64 (a : Nat)) (.pair (.int .i64 ((a + n : Nat) : Int)) (.pair (.int .i64 (m : Nat)) .nul))) (fun r h' => r = .sl 9 [] 2 0 (Tree.steps m a n).length ∧ h' = [(9, pairsO (Tree.steps m a n).length (Tree.steps m a n))]) := by
  refine Tree.ind (P := fun a n => a + n ≤ 1099511627776 → (Tree.steps m a n).length ≤ 1000000000 → _) fun a n hn ih hal hlen => ?_
  refine Ok.of_vc tt_ok Tryd.func39 rfl rfl (by show 3 ≤ _; decide) 0 (fun i av h => by cases h) fun c0 => ?_
  by_cases h0 : a + n ≤ m ∨ m ≤ a
  · rw [show Tree.steps m a n = [(a, a + n)] from Tree.rest_out hn h0]
    refine S_ ?_
    refine Seq.join (X := Unit) (fun _ => ⟨[(15, .bool true), (1, .int .i64 ((a + n : Nat) : Int)), (0, .int .i64 (a : Nat))], [], [], 0⟩) (fun _ => True) ?_ fun _ _ => ?_
    · by_cases h1 : ((a + n : Nat) : Int) ≤ (m : Int)
      · refine Seq.same 11 (u' := .bool true) (by rfl) (congrArg AV.bool (decide_eq_true h1)) ?_
        refine S_ ?_
        refine ⟨(), trivial, ?_⟩
        refine Sim.less [] (by rfl) ?_ ?_ <;> (repeat' (first | exact EnvLe.nil | exact HeapLe.nil | with_reducible apply EnvLe.cons | with_reducible apply HeapLe.cons | (with_reducible refine RelA.int ?_; first | (refine Keep.mk ?_; first | with_reducible rfl | omega | decide) | skip) | exact rfl | exact ⟨rfl, rfl⟩ | (with_reducible refine RelA.rsl ?_; intro i hi) | (with_reducible refine RelA.arr ?_; intro i hi) | with_reducible refine RelA.pair ?_ ?_ | with_reducible refine RelA.rptr ?_ | (with_reducible refine RelA.rslw ?_; intro i hi) | (refine RelA.rsl ?_; intro i hi) | (refine RelA.rslw ?_; intro i hi) | (refine RelA.arr ?_; intro i hi) | refine RelA.pair ?_ ?_ | refine RelA.tup ?_ | ((first | refine RelA.rslL (by first | rfl | ((try simp only [List.length_take, List.length_drop, List.length_append, List.length_cons, List.length_nil, List.length_map, List.length_range]); omega)) ?_ | refine RelA.rslT (by first | rfl | ((try simp only [List.length_take, List.length_drop, List.length_append, List.length_cons, List.length_nil, List.length_map, List.length_range]); omega)) ?_ | refine RelA.arrL (by first | rfl | ((try simp only [List.length_take, List.length_drop, List.length_append, List.length_cons, List.length_nil, List.length_map, List.length_range]); omega)) ?_); intro i hi; (try simp only [List.length_take, List.length_drop] at hi); (try simp (disch := omega) only [getD_take, getD_drop, Nat.zero_add, Int.toNat_natCast])) | exact RelA.bif_int | refine RelA.fn ?_ ?_)) <;> (try with_reducible refine Keep.mk ?_)
      · refine Seq.same 11 (u' := .bool false) (by rfl) (congrArg AV.bool (decide_eq_false h1)) ?_
        refine S_ ?_
        refine ⟨(), trivial, ?_⟩
        have h2 : (m : Int) ≤ (a : Int) := by omega
        rw [decide_eq_true h2]
        refine Sim.less [] (by rfl) ?_ ?_ <;> (repeat' (first | exact EnvLe.nil | exact HeapLe.nil | with_reducible apply EnvLe.cons | with_reducible apply HeapLe.cons | (with_reducible refine RelA.int ?_; first | (refine Keep.mk ?_; first | with_reducible rfl | omega | decide) | skip) | exact rfl | exact ⟨rfl, rfl⟩ | (with_reducible refine RelA.rsl ?_; intro i hi) | (with_reducible refine RelA.arr ?_; intro i hi) | with_reducible refine RelA.pair ?_ ?_ | with_reducible refine RelA.rptr ?_ | (with_reducible refine RelA.rslw ?_; intro i hi) | (refine RelA.rsl ?_; intro i hi) | (refine RelA.rslw ?_; intro i hi) | (refine RelA.arr ?_; intro i hi) | refine RelA.pair ?_ ?_ | refine RelA.tup ?_ | ((first | refine RelA.rslL (by first | rfl | ((try simp only [List.length_take, List.length_drop, List.length_append, List.length_cons, List.length_nil, List.length_map, List.length_range]); omega)) ?_ | refine RelA.rslT (by first | rfl | ((try simp only [List.length_take, List.length_drop, List.length_append, List.length_cons, List.length_nil, List.length_map, List.length_range]); omega)) ?_ | refine RelA.arrL (by first | rfl | ((try simp only [List.length_take, List.length_drop, List.length_append, List.length_cons, List.length_nil, List.length_map, List.length_range]); omega)) ?_); intro i hi; (try simp only [List.length_take, List.length_drop] at hi); (try simp (disch := omega) only [getD_take, getD_drop, Nat.zero_add, Int.toNat_natCast])) | exact RelA.bif_int | refine RelA.fn ?_ ?_)) <;> (try with_reducible refine Keep.mk ?_)
    refine S_ ?_
    refine VC.cond (by rfl) (fun hb => ?_) (fun hb => ?_) <;> (try simp only [decide_eq_true_eq, decide_eq_false_iff_not, Bool.not_eq_true', Bool.not_eq_false'] at hb) <;> (try (exfalso; omega)) <;> (try (cases hb; done))
    repeat (first | with_reducible refine VC.seq ?_ | with_reducible refine VC.block ?_ | with_reducible refine VC.region ?_ | with_reducible refine thenQ_n ?_ | with_reducible refine VC.skip ?_)
    refine SQ_ ?_
    refine Seq.conv (s' := ⟨[(6, .sl 9 [] 2 0 1)], [(9, pairsO 1 [(a, a + n)])], [], 10⟩) (by
      refine Sim.less [(9, 0)] (by rfl) ?_ ?_ <;> (repeat' (first | exact EnvLe.nil | exact HeapLe.nil | with_reducible apply EnvLe.cons | with_reducible apply HeapLe.cons | (with_reducible refine RelA.int ?_; first | (refine Keep.mk ?_; first | with_reducible rfl | omega | decide) | skip) | exact rfl | exact ⟨rfl, rfl⟩ | (with_reducible refine RelA.rsl ?_; intro i hi) | (with_reducible refine RelA.arr ?_; intro i hi) | with_reducible refine RelA.pair ?_ ?_ | with_reducible refine RelA.rptr ?_ | (with_reducible refine RelA.rslw ?_; intro i hi) | (refine RelA.rsl ?_; intro i hi) | (refine RelA.rslw ?_; intro i hi) | (refine RelA.arr ?_; intro i hi) | refine RelA.pair ?_ ?_ | refine RelA.tup ?_ | ((first | refine RelA.rslL (by first | rfl | ((try simp only [List.length_take, List.length_drop, List.length_append, List.length_cons, List.length_nil, List.length_map, List.length_range]); omega)) ?_ | refine RelA.rslT (by first | rfl | ((try simp only [List.length_take, List.length_drop, List.length_append, List.length_cons, List.length_nil, List.length_map, List.length_range]); omega)) ?_ | refine RelA.arrL (by first | rfl | ((try simp only [List.length_take, List.length_drop, List.length_append, List.length_cons, List.length_nil, List.length_map, List.length_range]); omega)) ?_); intro i hi; (try simp only [List.length_take, List.length_drop] at hi); (try simp (disch := omega) only [getD_take, getD_drop, Nat.zero_add, Int.toNat_natCast])) | exact RelA.bif_int | refine RelA.fn ?_ ?_)) <;> (try with_reducible refine Keep.mk ?_)
      obtain rfl : i = 0 := by omega
      exact relA_pair rfl rfl) ?_
    refine S_ ?_
    exact retQ_ok (by rfl) [(9, pairsO 1 [(a, a + n)])] (subL_ok ⟨rfl, trivial⟩) ⟨rfl, rfl⟩
  refine S_ ?_
  refine Seq.same 11 (u' := .bool false) (by rfl) (congrArg AV.bool (decide_eq_false (by omega))) ?_
  refine S_ ?_
  refine VC.cond (by rfl) (fun hb => ?_) (fun hb => ?_) <;> (try simp only [decide_eq_true_eq, decide_eq_false_iff_not, Bool.not_eq_true', Bool.not_eq_false'] at hb) <;> (try (exfalso; omega))
  have q1 := Tree.half_lt (n := n) (by omega)
  have q2 := Tree.half_pos (n := n) (by omega)
  have e1 : (((a + n : Nat) : Int) - (a : Int)) = ((n : Nat) : Int) := by omega
  have c3 := refHalf_ok n (by omega) (by omega)
  have hr : Tree.steps m a n = Tree.steps m a (Tree.half n) ++ Tree.steps m (a + Tree.half n) (n - Tree.half n) := Tree.rest_node (p := m) (q := m) (a := a) (n := n) (by omega) h0
  rw [hr] at hlen
  rw [List.length_append] at hlen
  have i1 := ih a (Tree.half n) q2 q1 (by omega) (by omega)
  have i2 := ih (a + Tree.half n) (n - Tree.half n) (by omega) (by omega) (by omega) (by omega)
  rw [show a + Tree.half n + (n - Tree.half n) = a + n by omega] at i2
  rw [hr, List.length_append]
  generalize Tree.steps m a (Tree.half n) = R1 at *
  generalize Tree.steps m (a + Tree.half n) (n - Tree.half n) = R2 at *
  generalize Tree.half n = k at *
  refine S_ ?_
  rw [e1]
  refine Seq.callp false (c3) Tryd.func30 GOk.nil subG.nil (by rfl) (by rfl) rfl rfl rfl rfl rfl (by rfl) rfl VW_ NI_ NI_ FR_ ?_
  refine S_ ?_
  refine Seq.calln false (i1) Tryd.func39 GOk.nil subG.nil (by rfl) (by rfl) rfl rfl rfl rfl rfl (by rfl) rfl VW_ NI_ NI_ FR_ ?_
  refine S_ ?_
  refine Seq.calln false (i2) Tryd.func39 GOk.nil subG.nil (by rfl) (by rfl) rfl rfl rfl rfl rfl (by rfl) rfl VW_ NI_ NI_ FR_ ?_
  refine SQ_ ?_
  refine Seq.conv (s' := ⟨[(6, .sl 9 [] 2 0 (R1.length + R2.length))], [(9, pairsO (R1.length + R2.length) (R1 ++ R2))], [], 10⟩) (by
    refine Sim.less [(9, 2)] (by rfl) ?_ ?_ <;> (repeat' (first | exact EnvLe.nil | exact HeapLe.nil | with_reducible apply EnvLe.cons | with_reducible apply HeapLe.cons | (with_reducible refine RelA.int ?_; first | (refine Keep.mk ?_; first | with_reducible rfl | omega | decide) | skip) | exact rfl | exact ⟨rfl, rfl⟩ | (with_reducible refine RelA.rsl ?_; intro i hi) | (with_reducible refine RelA.arr ?_; intro i hi) | with_reducible refine RelA.pair ?_ ?_ | with_reducible refine RelA.rptr ?_ | (with_reducible refine RelA.rslw ?_; intro i hi) | (refine RelA.rsl ?_; intro i hi) | (refine RelA.rslw ?_; intro i hi) | (refine RelA.arr ?_; intro i hi) | refine RelA.pair ?_ ?_ | refine RelA.tup ?_ | ((first | refine RelA.rslL (by first | rfl | ((try simp only [List.length_take, List.length_drop, List.length_append, List.length_cons, List.length_nil, List.length_map, List.length_range]); omega)) ?_ | refine RelA.rslT (by first | rfl | ((try simp only [List.length_take, List.length_drop, List.length_append, List.length_cons, List.length_nil, List.length_map, List.length_range]); omega)) ?_ | refine RelA.arrL (by first | rfl | ((try simp only [List.length_take, List.length_drop, List.length_append, List.length_cons, List.length_nil, List.length_map, List.length_range]); omega)) ?_); intro i hi; (try simp only [List.length_take, List.length_drop] at hi); (try simp (disch := omega) only [getD_take, getD_drop, Nat.zero_add, Int.toNat_natCast])) | exact RelA.bif_int | refine RelA.fn ?_ ?_)) <;> (try with_reducible refine Keep.mk ?_)
    exact RelA.of_eq pairA_self (joinF_appG (F := pairA) (d0 := (0, 0)) rfl rfl (fun j hj => congrArg (fun z => pairA (R2.getD z (0, 0))) (Nat.zero_add j)) hi)) ?_
  refine S_ ?_
  exact retQ_ok (by rfl) [(9, pairsO (R1.length + R2.length) (R1 ++ R2))] (subL_ok ⟨rfl, trivial⟩) ⟨rfl, rfl⟩
def pairsV (R : List (Nat × Nat)) : AV := .rsl false R.length 2 (fun i => pairA (R.getD i (0, 0)))
set_option maxRecDepth 10000 in
theorem roots_ok (l : List (List UInt8)) (hl : LOk l) (R : List (Nat × Nat)) (hR : ∀ x ∈ R, x.1 < x.2 ∧ x.2 ≤ l.length) (hlen : R.length ≤ 1000000000) :
    Ok Tryd.prog 35 gR [] (.pair (strs l) (.pair (pairsV R) .nul)) (fun r h' => r = .sl 9 [] 16 0 R.length ∧ h' = [(9, digsO R.length (rootsD l R))]) := by
  have hl1 := hl.1
  refine Ok.of_vc tt_ok Tryd.func35 rfl rfl (by show 2 ≤ _; decide) 0 (fun i av h => by cases h) fun c0 => ?_
  refine S_ ?_
  refine VC.conv (Sim.ghost 5 16 (fun i => digA (([] : List (List UInt8)).getD i [])) (by rfl) (.inl rfl)) ?_
  refine VC.loop (fun i : Nat => ⟨[(6, .int .i64 (i : Nat)), (5, .sl 0 [] 16 0 i), (1, pairsV R), (0, strs l)], [(0, digsO i ((rootsD l R).take i))], gR, 1⟩) (fun i => i ≤ R.length) (fun i => R.length - i) 0 (by omega) (by refine Sim.less [] (by rfl) ?_ ?_ <;> (repeat' (first | with_reducible refine relA_strs ?_ | first | exact EnvLe.nil | exact HeapLe.nil | with_reducible apply EnvLe.cons | with_reducible apply HeapLe.cons | (with_reducible refine RelA.int ?_; first | (refine Keep.mk ?_; first | with_reducible rfl | omega | decide) | skip) | exact rfl | exact ⟨rfl, rfl⟩ | (with_reducible refine RelA.rsl ?_; intro i hi) | (with_reducible refine RelA.arr ?_; intro i hi) | with_reducible refine RelA.pair ?_ ?_ | with_reducible refine RelA.rptr ?_ | (with_reducible refine RelA.rslw ?_; intro i hi) | (refine RelA.rsl ?_; intro i hi) | (refine RelA.rslw ?_; intro i hi) | (refine RelA.arr ?_; intro i hi) | refine RelA.pair ?_ ?_ | refine RelA.tup ?_ | ((first | refine RelA.rslL (by first | rfl | ((try simp only [List.length_take, List.length_drop, List.length_append, List.length_cons, List.length_nil, List.length_map, List.length_range]); omega)) ?_ | refine RelA.rslT (by first | rfl | ((try simp only [List.length_take, List.length_drop, List.length_append, List.length_cons, List.length_nil, List.length_map, List.length_range]); omega)) ?_ | refine RelA.arrL (by first | rfl | ((try simp only [List.length_take, List.length_drop, List.length_append, List.length_cons, List.length_nil, List.length_map, List.length_range]); omega)) ?_); intro i hi; (try simp only [List.length_take, List.length_drop] at hi); (try simp (disch := omega) only [getD_take, getD_drop, Nat.zero_add, Int.toNat_natCast])) | exact RelA.bif_int | refine RelA.fn ?_ ?_)) <;> (try with_reducible refine Keep.mk ?_)) fun i hi => ?_
  refine S_ ?_
  refine VC.cond (by rfl) (fun hb => ?_) (fun hb => ?_) <;> (try simp only [decide_eq_true_eq, decide_eq_false_iff_not, Bool.not_eq_true', Bool.not_eq_false'] at hb) <;> (try (exfalso; omega))
  · have hxm : R.getD i (0, 0) ∈ R := by rw [List.getD_eq_getElem?_getD, List.getElem?_eq_getElem (by omega)]; exact List.getElem_mem _
    obtain ⟨h1, h2⟩ := hR _ hxm
    have hrt : (rootsD l R).take (i + 1) = (rootsD l R).take i ++ [rootD l (R.getD i (0, 0)).1 ((R.getD i (0, 0)).2 - (R.getD i (0, 0)).1)] := by
      rw [List.take_add_one]
      unfold rootsD
      simp [show i < R.length by omega]
    have hrp := rootD_part l (R.getD i (0, 0)).1 ((R.getD i (0, 0)).2 - (R.getD i (0, 0)).1) (by omega) (by omega)
    have c1 := refRoot_ok _ ((l.drop (R.getD i (0, 0)).1).take ((R.getD i (0, 0)).2 - (R.getD i (0, 0)).1)) rfl (hl.part _ _)
    rw [hrp] at c1
    generalize hX : rootD l (R.getD i (0, 0)).1 ((R.getD i (0, 0)).2 - (R.getD i (0, 0)).1) = X at *
    have hlt : ((rootsD l R).take i).length = i := by rw [List.length_take]; unfold rootsD; rw [List.length_map]; omega
    refine S_ ?_
    refine VC.draw (mkP [(0, 0), (1, 0), (2, 0), (3, 0), (4, 12), (5, 28), (6, 60), (7, 0), (8, 0), (9, 384), (10, 896), (11, 1920), (12, 4094), (13, 8190), (14, 16382)]) [15, 16] (by rfl) (by kernel_rfl) (by rfl) (by rfl) ?_
    refine D_ ?_
    have e1 : (bif Nat.beq (Int.toNat 0) 0 then (((R.getD (i : Int).toNat (0, 0)).1 : Nat) : Int) else (((R.getD (i : Int).toNat (0, 0)).2 : Nat) : Int)) = (((R.getD i (0, 0)).1 : Nat) : Int) := rfl
    have e2 : (bif Nat.beq (Int.toNat 1) 0 then (((R.getD (i : Int).toNat (0, 0)).1 : Nat) : Int) else (((R.getD (i : Int).toNat (0, 0)).2 : Nat) : Int)) = (((R.getD i (0, 0)).2 : Nat) : Int) := rfl
    rw [e1, e2]
    clear e1 e2
    generalize R.getD i (0, 0) = x at *
    refine D_ ?_
    refine DSeq.callp false (c1) Tryd.func12 gR_ok subG.refl (by rfl) (fastE (by rfl)) (fastH (by rfl)) (by rfl) (by rfl) rfl rfl rfl rfl rfl (by rfl) (by rfl) ?_ NI_ NI_ FR_ ?_
    · refine View.pair (View.rel (relA_strs2 (by rw [List.length_take, List.length_drop]; omega) fun j hj => ?_)) (View.rel (NoId.self trivial))
      show AV.str (l.getD ((x.1 : Int).toNat + j) []) = _
      rw [Int.toNat_natCast, List.getD_eq_getElem?_getD, List.getD_eq_getElem?_getD, List.getElem?_take_of_lt (by omega), List.getElem?_drop]
    refine D_ ?_
    refine S_ ?_
    refine ⟨i + 1, by omega, by omega, ?_⟩
    rw [hrt]
    refine Sim.less [(0, 2)] (by rfl) ?_ ?_ <;> (repeat' (first | with_reducible refine relA_strs ?_ | first | exact EnvLe.nil | exact HeapLe.nil | with_reducible apply EnvLe.cons | with_reducible apply HeapLe.cons | (with_reducible refine RelA.int ?_; first | (refine Keep.mk ?_; first | with_reducible rfl | omega | decide) | skip) | exact rfl | exact ⟨rfl, rfl⟩ | (with_reducible refine RelA.rsl ?_; intro i hi) | (with_reducible refine RelA.arr ?_; intro i hi) | with_reducible refine RelA.pair ?_ ?_ | with_reducible refine RelA.rptr ?_ | (with_reducible refine RelA.rslw ?_; intro i hi) | (refine RelA.rsl ?_; intro i hi) | (refine RelA.rslw ?_; intro i hi) | (refine RelA.arr ?_; intro i hi) | refine RelA.pair ?_ ?_ | refine RelA.tup ?_ | ((first | refine RelA.rslL (by first | rfl | ((try simp only [List.length_take, List.length_drop, List.length_append, List.length_cons, List.length_nil, List.length_map, List.length_range]); omega)) ?_ | refine RelA.rslT (by first | rfl | ((try simp only [List.length_take, List.length_drop, List.length_append, List.length_cons, List.length_nil, List.length_map, List.length_range]); omega)) ?_ | refine RelA.arrL (by first | rfl | ((try simp only [List.length_take, List.length_drop, List.length_append, List.length_cons, List.length_nil, List.length_map, List.length_range]); omega)) ?_); intro i hi; (try simp only [List.length_take, List.length_drop] at hi); (try simp (disch := omega) only [getD_take, getD_drop, Nat.zero_add, Int.toNat_natCast])) | exact RelA.bif_int | refine RelA.fn ?_ ?_)) <;> (try with_reducible refine Keep.mk ?_)
    exact RelA.of_eq (NoId.self (fun _ _ => trivial)) (joinF_snocG (F := digA) hlt hi rfl)
  · obtain rfl : i = R.length := by omega
    have : (rootsD l R).take R.length = rootsD l R := List.take_of_length_le (by unfold rootsD; rw [List.length_map]; omega)
    rw [this]
    refine VC.conv (s' := ⟨[(5, .sl 9 [] 16 0 R.length)], [(9, digsO R.length (rootsD l R))], gR, 10⟩) (by refine Sim.less [(9, 0)] (by rfl) ?_ ?_ <;> (repeat' (first | exact EnvLe.nil | exact HeapLe.nil | with_reducible apply EnvLe.cons | with_reducible apply HeapLe.cons | (with_reducible refine RelA.int ?_; first | (refine Keep.mk ?_; first | with_reducible rfl | omega | decide) | skip) | exact rfl | exact ⟨rfl, rfl⟩ | (with_reducible refine RelA.rsl ?_; intro i hi) | (with_reducible refine RelA.arr ?_; intro i hi) | with_reducible refine RelA.pair ?_ ?_ | with_reducible refine RelA.rptr ?_ | (with_reducible refine RelA.rslw ?_; intro i hi) | (refine RelA.rsl ?_; intro i hi) | (refine RelA.rslw ?_; intro i hi) | (refine RelA.arr ?_; intro i hi) | refine RelA.pair ?_ ?_ | refine RelA.tup ?_ | ((first | refine RelA.rslL (by first | rfl | ((try simp only [List.length_take, List.length_drop, List.length_append, List.length_cons, List.length_nil, List.length_map, List.length_range]); omega)) ?_ | refine RelA.rslT (by first | rfl | ((try simp only [List.length_take, List.length_drop, List.length_append, List.length_cons, List.length_nil, List.length_map, List.length_range]); omega)) ?_ | refine RelA.arrL (by first | rfl | ((try simp only [List.length_take, List.length_drop, List.length_append, List.length_cons, List.length_nil, List.length_map, List.length_range]); omega)) ?_); intro i hi; (try simp only [List.length_take, List.length_drop] at hi); (try simp (disch := omega) only [getD_take, getD_drop, Nat.zero_add, Int.toNat_natCast])) | exact RelA.bif_int | refine RelA.fn ?_ ?_)) <;> (try with_reducible refine Keep.mk ?_)) ?_
    refine S_ ?_
    exact retQ_ok (by rfl) [(9, digsO R.length (rootsD l R))] (subL_ok ⟨rfl, trivial⟩) ⟨rfl, rfl⟩
set_option maxRecDepth 10000 in
theorem refProve_yes (l : List (List UInt8)) (hl : LOk l) (hl2 : l.length ≤ 1000000000) (p q : Nat) (hpq : p < q) (hq : q ≤ l.length) (R : List (List UInt8)) (hR : R = rootsD l (Tree.rest p q 0 l.length)) :
    Ok Tryd.prog 14 gR [] (.pair (strs l) (.pair (.int .i64 (p : Nat)) (.pair (.int .i64 (q : Nat)) .nul))) (fun r h' => r = resP l.length p R.length 0 ∧ h' = [(9, digsO R.length R)]) := by
  have h1 := rest_length p q 0 l.length (by omega)
  have c1 := refRest_ok p q (by omega) 0 l.length (by omega) (by omega) (by omega)
  have c2 := roots_ok l hl (Tree.rest p q 0 l.length) (fun x hx => by have := Tree.rest_mem 0 l.length (by omega) x hx; omega) (by omega)
  rw [← hR] at c2
  have hlen : R.length = (Tree.rest p q 0 l.length).length := by rw [hR]; unfold rootsD; rw [List.length_map]
  rw [Nat.zero_add] at c1
  clear hR
  generalize Tree.rest p q 0 l.length = T at *
  rw [← hlen] at c1 c2
  refine Ok.of_vc tt_ok Tryd.func14 rfl rfl (by show 3 ≤ _; decide) 0 (fun i av h => by cases h) fun c0 => ?_
  refine S_ ?_
  refine Seq.same 10 (u' := .bool false) (by rfl) (congrArg AV.bool (decide_eq_false (by omega))) ?_
  refine S_ ?_
  refine Seq.same 15 (u' := .bool false) (by rfl) (congrArg AV.bool (decide_eq_false (by omega))) ?_
  refine S_ ?_
  refine VC.cond (by rfl) (fun hb => ?_) (fun hb => ?_) <;> (try simp only [decide_eq_true_eq, decide_eq_false_iff_not, Bool.not_eq_true', Bool.not_eq_false'] at hb) <;> (try (exfalso; omega))
  refine S_ ?_
  refine Seq.calln false (c1) Tryd.func36 gR_ok subG.nil (by rfl) (by rfl) rfl rfl rfl rfl rfl (by rfl) rfl VW_ NI_ NI_ FR_ ?_
  refine S_ ?_
  refine Seq.calln true c2 Tryd.func35 gR_ok subG.refl (by rfl) (by rfl) rfl rfl rfl rfl rfl (by rfl) rfl ?_ (by repeat' (first | exact trivial | exact rfl | refine NoFr.bif ?_ ?_ | refine NoId.bif ?_ ?_ | refine AllFr.bif ?_ ?_ | (intro i hi) | (refine ⟨?_, ?_⟩) | (intro e; cases e; done))) (by repeat' (first | exact trivial | exact rfl | refine NoFr.bif ?_ ?_ | refine NoId.bif ?_ ?_ | refine AllFr.bif ?_ ?_ | (intro i hi) | (refine ⟨?_, ?_⟩) | (intro e; cases e; done))) FR_ ?_
  · repeat' (first | exact View.rel ⟨rfl, rfl⟩ | (refine View.sln (by rfl) (by rfl) (by (first | exact trivial | exact u8_in _ rfl | exact u32_in _ rfl | ((with_reducible refine AllP.guard ?_); simp only [AllP, inI, fitV, maxK, inK, inbL, inb, List.append, List.cons_append, List.nil_append, true_and, and_true]; first | done | omega))) ?_ ⟨rfl, rfl⟩ ?_ ?_) | exact View.nil | exact View.emp | refine View.pair ?_ ?_ | refine View.fn ?_ ?_ | refine View.ptr (by rfl) (by rfl) (by (first | exact trivial | exact u8_in _ rfl | exact u32_in _ rfl | ((with_reducible refine AllP.guard ?_); simp only [AllP, inI, fitV, maxK, inK, inbL, inb, List.append, List.cons_append, List.nil_append, true_and, and_true]; first | done | omega))) (by rfl) ⟨rfl, rfl⟩ ?_ | exact View.rel (NoId.self (by first | ((repeat' (first | exact trivial | exact rfl | refine NoFr.bif ?_ ?_ | refine NoId.bif ?_ ?_ | refine AllFr.bif ?_ ?_ | (intro i hi) | (refine ⟨?_, ?_⟩) | (intro e; cases e; done))); done) | fail)) | (exact NoId.self (by first | ((repeat' (first | exact trivial | exact rfl | refine NoFr.bif ?_ ?_ | refine NoId.bif ?_ ?_ | refine AllFr.bif ?_ ?_ | (intro i hi) | (refine ⟨?_, ?_⟩) | (intro e; cases e; done))); done) | fail)) | exact ⟨rfl, rfl⟩ | (refine View.rel ?_; repeat' (first | exact EnvLe.nil | exact HeapLe.nil | with_reducible apply EnvLe.cons | with_reducible apply HeapLe.cons | (with_reducible refine RelA.int ?_; first | (refine Keep.mk ?_; first | with_reducible rfl | omega | decide) | skip) | exact rfl | exact ⟨rfl, rfl⟩ | (with_reducible refine RelA.rsl ?_; intro i hi) | (with_reducible refine RelA.arr ?_; intro i hi) | with_reducible refine RelA.pair ?_ ?_ | with_reducible refine RelA.rptr ?_ | (with_reducible refine RelA.rslw ?_; intro i hi) | (refine RelA.rsl ?_; intro i hi) | (refine RelA.rslw ?_; intro i hi) | (refine RelA.arr ?_; intro i hi) | refine RelA.pair ?_ ?_ | refine RelA.tup ?_ | ((first | refine RelA.rslL (by first | rfl | ((try simp only [List.length_take, List.length_drop, List.length_append, List.length_cons, List.length_nil, List.length_map, List.length_range]); omega)) ?_ | refine RelA.rslT (by first | rfl | ((try simp only [List.length_take, List.length_drop, List.length_append, List.length_cons, List.length_nil, List.length_map, List.length_range]); omega)) ?_ | refine RelA.arrL (by first | rfl | ((try simp only [List.length_take, List.length_drop, List.length_append, List.length_cons, List.length_nil, List.length_map, List.length_range]); omega)) ?_); intro i hi; (try simp only [List.length_take, List.length_drop] at hi); (try simp (disch := omega) only [getD_take, getD_drop, Nat.zero_add, Int.toNat_natCast])) | exact RelA.bif_int | refine RelA.fn ?_ ?_)) <;> (try with_reducible refine Keep.mk ?_))
    · omega
    · exact hlen.symm
    · intro i hi
      rw [Nat.zero_add]
      exact pairA_self
  refine SQ_ ?_
  refine Seq.conv (s' := ⟨[(7, .int .i64 0), (6, .ptr 0 [])], [(0, proofA l.length p (.sl 9 [] 16 0 R.length)), (9, digsO R.length R)], gR, 10⟩) (by refine Sim.less [(9, 2)] (by rfl) ?_ ?_ <;> (repeat' (first | exact EnvLe.nil | exact HeapLe.nil | with_reducible apply EnvLe.cons | with_reducible apply HeapLe.cons | (with_reducible refine RelA.int ?_; first | (refine Keep.mk ?_; first | with_reducible rfl | omega | decide) | skip) | exact rfl | exact ⟨rfl, rfl⟩ | (with_reducible refine RelA.rsl ?_; intro i hi) | (with_reducible refine RelA.arr ?_; intro i hi) | with_reducible refine RelA.pair ?_ ?_ | with_reducible refine RelA.rptr ?_ | (with_reducible refine RelA.rslw ?_; intro i hi) | (refine RelA.rsl ?_; intro i hi) | (refine RelA.rslw ?_; intro i hi) | (refine RelA.arr ?_; intro i hi) | refine RelA.pair ?_ ?_ | refine RelA.tup ?_ | ((first | refine RelA.rslL (by first | rfl | ((try simp only [List.length_take, List.length_drop, List.length_append, List.length_cons, List.length_nil, List.length_map, List.length_range]); omega)) ?_ | refine RelA.rslT (by first | rfl | ((try simp only [List.length_take, List.length_drop, List.length_append, List.length_cons, List.length_nil, List.length_map, List.length_range]); omega)) ?_ | refine RelA.arrL (by first | rfl | ((try simp only [List.length_take, List.length_drop, List.length_append, List.length_cons, List.length_nil, List.length_map, List.length_range]); omega)) ?_); intro i hi; (try simp only [List.length_take, List.length_drop] at hi); (try simp (disch := omega) only [getD_take, getD_drop, Nat.zero_add, Int.toNat_natCast])) | exact RelA.bif_int | refine RelA.fn ?_ ?_)) <;> (try with_reducible refine Keep.mk ?_)) ?_
  refine S_ ?_
  exact retQ_ok (by rfl) [(9, digsO R.length R)] (subL_ok ⟨rfl, trivial⟩) ⟨rfl, rfl⟩
set_option maxRecDepth 10000 in
theorem refProve_no (l : List (List UInt8)) (hl2 : l.length ≤ 1000000000) (p q : Int) (h : p < 0 ∨ q ≤ p ∨ (l.length : Int) < q) :
    Ok Tryd.prog 14 gR [] (.pair (strs l) (.pair (.int .i64 p) (.pair (.int .i64 q) .nul))) (fun r h' => r = resP 0 0 0 1 ∧ h' = [(9, digsO 0 [])]) := by
  refine Ok.of_vc tt_ok Tryd.func14 rfl rfl (by show 3 ≤ _; decide) 0 (fun i av h => by cases h) fun c0 => ?_
  refine S_ ?_
  refine Seq.join (X := Unit) (fun _ => ⟨[(20, .bool true), (7, .int .i64 0), (6, .ptr 0 [])], [(0, proofA 0 0 (.val (.slice none 0 0)))], gR, 1⟩) (fun _ => True) ?_ fun _ _ => ?_
  · by_cases h1 : p < 0
    · refine Seq.same 10 (u' := .bool true) (by rfl) (congrArg AV.bool (decide_eq_true h1)) ?_
      refine S_ ?_
      refine ⟨(), trivial, ?_⟩
      refine Sim.less [] (by rfl) ?_ ?_ <;> (repeat' (first | exact EnvLe.nil | exact HeapLe.nil | with_reducible apply EnvLe.cons | with_reducible apply HeapLe.cons | (with_reducible refine RelA.int ?_; first | (refine Keep.mk ?_; first | with_reducible rfl | omega | decide) | skip) | exact rfl | exact ⟨rfl, rfl⟩ | (with_reducible refine RelA.rsl ?_; intro i hi) | (with_reducible refine RelA.arr ?_; intro i hi) | with_reducible refine RelA.pair ?_ ?_ | with_reducible refine RelA.rptr ?_ | (with_reducible refine RelA.rslw ?_; intro i hi) | (refine RelA.rsl ?_; intro i hi) | (refine RelA.rslw ?_; intro i hi) | (refine RelA.arr ?_; intro i hi) | refine RelA.pair ?_ ?_ | refine RelA.tup ?_ | ((first | refine RelA.rslL (by first | rfl | ((try simp only [List.length_take, List.length_drop, List.length_append, List.length_cons, List.length_nil, List.length_map, List.length_range]); omega)) ?_ | refine RelA.rslT (by first | rfl | ((try simp only [List.length_take, List.length_drop, List.length_append, List.length_cons, List.length_nil, List.length_map, List.length_range]); omega)) ?_ | refine RelA.arrL (by first | rfl | ((try simp only [List.length_take, List.length_drop, List.length_append, List.length_cons, List.length_nil, List.length_map, List.length_range]); omega)) ?_); intro i hi; (try simp only [List.length_take, List.length_drop] at hi); (try simp (disch := omega) only [getD_take, getD_drop, Nat.zero_add, Int.toNat_natCast])) | exact RelA.bif_int | refine RelA.fn ?_ ?_)) <;> (try with_reducible refine Keep.mk ?_)
    · refine Seq.same 10 (u' := .bool false) (by rfl) (congrArg AV.bool (decide_eq_false h1)) ?_
      refine S_ ?_
      by_cases h2 : q ≤ p
      · refine Seq.same 15 (u' := .bool true) (by rfl) (congrArg AV.bool (decide_eq_true h2)) ?_
        refine S_ ?_
        refine ⟨(), trivial, ?_⟩
        refine Sim.less [] (by rfl) ?_ ?_ <;> (repeat' (first | exact EnvLe.nil | exact HeapLe.nil | with_reducible apply EnvLe.cons | with_reducible apply HeapLe.cons | (with_reducible refine RelA.int ?_; first | (refine Keep.mk ?_; first | with_reducible rfl | omega | decide) | skip) | exact rfl | exact ⟨rfl, rfl⟩ | (with_reducible refine RelA.rsl ?_; intro i hi) | (with_reducible refine RelA.arr ?_; intro i hi) | with_reducible refine RelA.pair ?_ ?_ | with_reducible refine RelA.rptr ?_ | (with_reducible refine RelA.rslw ?_; intro i hi) | (refine RelA.rsl ?_; intro i hi) | (refine RelA.rslw ?_; intro i hi) | (refine RelA.arr ?_; intro i hi) | refine RelA.pair ?_ ?_ | refine RelA.tup ?_ | ((first | refine RelA.rslL (by first | rfl | ((try simp only [List.length_take, List.length_drop, List.length_append, List.length_cons, List.length_nil, List.length_map, List.length_range]); omega)) ?_ | refine RelA.rslT (by first | rfl | ((try simp only [List.length_take, List.length_drop, List.length_append, List.length_cons, List.length_nil, List.length_map, List.length_range]); omega)) ?_ | refine RelA.arrL (by first | rfl | ((try simp only [List.length_take, List.length_drop, List.length_append, List.length_cons, List.length_nil, List.length_map, List.length_range]); omega)) ?_); intro i hi; (try simp only [List.length_take, List.length_drop] at hi); (try simp (disch := omega) only [getD_take, getD_drop, Nat.zero_add, Int.toNat_natCast])) | exact RelA.bif_int | refine RelA.fn ?_ ?_)) <;> (try with_reducible refine Keep.mk ?_)
      · refine Seq.same 15 (u' := .bool false) (by rfl) (congrArg AV.bool (decide_eq_false h2)) ?_
        refine S_ ?_
        refine ⟨(), trivial, ?_⟩
        have h3 : (l.length : Int) < q := by omega
        rw [decide_eq_true h3]
        refine Sim.less [] (by rfl) ?_ ?_ <;> (repeat' (first | exact EnvLe.nil | exact HeapLe.nil | with_reducible apply EnvLe.cons | with_reducible apply HeapLe.cons | (with_reducible refine RelA.int ?_; first | (refine Keep.mk ?_; first | with_reducible rfl | omega | decide) | skip) | exact rfl | exact ⟨rfl, rfl⟩ | (with_reducible refine RelA.rsl ?_; intro i hi) | (with_reducible refine RelA.arr ?_; intro i hi) | with_reducible refine RelA.pair ?_ ?_ | with_reducible refine RelA.rptr ?_ | (with_reducible refine RelA.rslw ?_; intro i hi) | (refine RelA.rsl ?_; intro i hi) | (refine RelA.rslw ?_; intro i hi) | (refine RelA.arr ?_; intro i hi) | refine RelA.pair ?_ ?_ | refine RelA.tup ?_ | ((first | refine RelA.rslL (by first | rfl | ((try simp only [List.length_take, List.length_drop, List.length_append, List.length_cons, List.length_nil, List.length_map, List.length_range]); omega)) ?_ | refine RelA.rslT (by first | rfl | ((try simp only [List.length_take, List.length_drop, List.length_append, List.length_cons, List.length_nil, List.length_map, List.length_range]); omega)) ?_ | refine RelA.arrL (by first | rfl | ((try simp only [List.length_take, List.length_drop, List.length_append, List.length_cons, List.length_nil, List.length_map, List.length_range]); omega)) ?_); intro i hi; (try simp only [List.length_take, List.length_drop] at hi); (try simp (disch := omega) only [getD_take, getD_drop, Nat.zero_add, Int.toNat_natCast])) | exact RelA.bif_int | refine RelA.fn ?_ ?_)) <;> (try with_reducible refine Keep.mk ?_)
  refine S_ ?_
  refine VC.cond (by rfl) (fun hb => ?_) (fun hb => ?_) <;> (try simp only [decide_eq_true_eq, decide_eq_false_iff_not, Bool.not_eq_true', Bool.not_eq_false'] at hb) <;> (try (exfalso; omega)) <;> (try (cases hb; done))
  repeat (first | with_reducible refine VC.seq ?_ | with_reducible refine VC.block ?_ | with_reducible refine VC.region ?_ | with_reducible refine thenQ_n ?_ | with_reducible refine VC.skip ?_)
  refine SQ_ ?_
  refine Seq.conv (Sim.ghostF 0 2 16 (fun i => digA (([] : List (List UInt8)).getD i [])) (by rfl) (by rfl) (by rfl)) ?_
  refine Seq.conv (s' := ⟨[(7, .int .i64 1), (6, .ptr 0 [])], [(0, proofA 0 0 (.sl 9 [] 16 0 0)), (9, digsO 0 [])], gR, 10⟩) (by refine Sim.less [(9, 1)] (by rfl) ?_ ?_ <;> (repeat' (first | exact EnvLe.nil | exact HeapLe.nil | with_reducible apply EnvLe.cons | with_reducible apply HeapLe.cons | (with_reducible refine RelA.int ?_; first | (refine Keep.mk ?_; first | with_reducible rfl | omega | decide) | skip) | exact rfl | exact ⟨rfl, rfl⟩ | (with_reducible refine RelA.rsl ?_; intro i hi) | (with_reducible refine RelA.arr ?_; intro i hi) | with_reducible refine RelA.pair ?_ ?_ | with_reducible refine RelA.rptr ?_ | (with_reducible refine RelA.rslw ?_; intro i hi) | (refine RelA.rsl ?_; intro i hi) | (refine RelA.rslw ?_; intro i hi) | (refine RelA.arr ?_; intro i hi) | refine RelA.pair ?_ ?_ | refine RelA.tup ?_ | ((first | refine RelA.rslL (by first | rfl | ((try simp only [List.length_take, List.length_drop, List.length_append, List.length_cons, List.length_nil, List.length_map, List.length_range]); omega)) ?_ | refine RelA.rslT (by first | rfl | ((try simp only [List.length_take, List.length_drop, List.length_append, List.length_cons, List.length_nil, List.length_map, List.length_range]); omega)) ?_ | refine RelA.arrL (by first | rfl | ((try simp only [List.length_take, List.length_drop, List.length_append, List.length_cons, List.length_nil, List.length_map, List.length_range]); omega)) ?_); intro i hi; (try simp only [List.length_take, List.length_drop] at hi); (try simp (disch := omega) only [getD_take, getD_drop, Nat.zero_add, Int.toNat_natCast])) | exact RelA.bif_int | refine RelA.fn ?_ ?_)) <;> (try with_reducible refine Keep.mk ?_)) ?_
  refine S_ ?_
  exact retQ_ok (by rfl) [(9, digsO 0 [])] (subL_ok ⟨rfl, trivial⟩) ⟨rfl, rfl⟩
end Go.Proofs.YtbphmbmdkojbnaaDoor
