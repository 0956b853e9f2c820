
/- dioramalaw39.TreeParts. -/
import Derived.Test.YtbphmbmdkojbnaaDoorTz
set_option linter.unusedSimpArgs false
set_option linter.unusedVariables false
namespace Go.Proofs.YtbphmbmdkojbnaaDoor
open Go.V Go.RowKit Go.U Go.L
theorem rootB_split (x : List (List UInt8)) (h : 2 ≤ x.length) : rootB x = nodeD (rootB (x.take (Tree.half x.length))) (rootB (x.drop (Tree.half x.length))) := by
  have q1 := Tree.half_lt h
  have q2 := Tree.half_pos h
  have hne : x ≠ [] := fun e => by rw [e] at h; exact absurd h (by decide)
  have e1 := rootD_take x (Tree.half x.length) q2 (by omega)
  have e2 := rootD_part x (Tree.half x.length) (x.length - Tree.half x.length) (by omega) (by omega)
  rw [List.take_of_length_le (by rw [List.length_drop]; exact Nat.le_refl _)] at e2
  rw [e1, e2]
  unfold rootB
  rw [if_neg hne]
  have := Tree.rootR_node leafD nodeD [] x (a := 0) h
  rw [Nat.zero_add] at this
  exact this
set_option maxRecDepth 10000 in
theorem lawParts_ok (l : List Int) (hl : IOk l) : Ok Tryd.prog 7 gK [] (.pair (intsV l) .nul) (fun r h' => r = .bool true ∧ h' = []) := by
  have hl1 := hl.1
  have cx := leaves_ok l hl
  have hx := leaves_LOk l
  have hxl := (leavesR_length l).2
  generalize leavesR l = x at *
  have c1 := root_ok x hx
  have cl := lives_ok
  refine Ok.of_vc tt_ok Tryd.func7 rfl rfl (by show 1 ≤ _; decide) 0 (fun i av h => by cases h) fun c0 => ?_
  refine S_ ?_
  refine Seq.calln false (cx) Tryd.func9 gK_ok subG.nil (by rfl) (by rfl) rfl rfl rfl rfl rfl (by rfl) rfl VW_ NI_ NI_ FR_ ?_
  refine S_ ?_
  refine VC.conv (Sim.still (e' := [(9, .bool (decide (((x.length : Nat) : Int) = 0))), (3, strs x)]) (h' := []) [0] trivial (by rfl) (EnvV.cons (by rfl) (View.rel rfl) (by repeat' (first | exact trivial | exact rfl | refine NoFr.bif ?_ ?_ | refine NoId.bif ?_ ?_ | refine AllFr.bif ?_ ?_ | (intro i hi) | (refine ⟨?_, ?_⟩) | (intro e; cases e; done))) (EnvV.cons (by rfl) (view_strs (by rfl) (by omega) ⟨rfl, rfl⟩ rfl (fun i hi => by rw [Nat.zero_add])) (by repeat' (first | exact trivial | exact rfl | refine NoFr.bif ?_ ?_ | refine NoId.bif ?_ ?_ | refine AllFr.bif ?_ ?_ | (intro i hi) | (refine ⟨?_, ?_⟩) | (intro e; cases e; done))) EnvV.nil))) ?_
  by_cases h0 : x.length = 0
  · have : x = [] := List.length_eq_zero_iff.1 h0
    subst this
    have c2 := ofD_ok 2 [] (by decide) (by decide) (by decide)
    refine VC.cond (b := true) (by rfl) (fun _ => ?_) (fun e => by cases e) 
    refine S_ ?_
    refine Seq.callp false (c1) Tryd.func11 gK_ok subG.refl (by rfl) (by rfl) rfl rfl rfl rfl rfl (by rfl) rfl VW_ NI_ NI_ FR_ ?_
    refine S_ ?_
    refine Seq.callp false (c2) Tryd.func24 gK_ok subG.refl (by rfl) (by rfl) rfl rfl rfl rfl rfl (by rfl) rfl VW_ NI_ NI_ FR_ ?_
    refine Seq.eqarr (true) tt_ok (by rfl) (by rfl) (by rfl) (by kernel_rfl) (by rfl) (by rfl) (by rfl) rfl ⟨fun _ i hi => rfl, fun _ => rfl⟩ ?_
    refine S_ ?_
    refine Seq.callp false (cl) Tryd.func18 gK_ok subG.refl (by rfl) (by rfl) rfl rfl rfl rfl rfl (by rfl) rfl VW_ NI_ NI_ FR_ ?_
    refine S_ ?_
    exact retQ_ok (by rfl) [] nil_sub ⟨rfl, rfl⟩
  by_cases h1 : x.length = 1
  · have hb : rootB x = digD 1 [x.getD 0 []] := by
      unfold rootB
      rw [if_neg (fun e => h0 (by rw [e]; rfl)), h1]
      rfl
    have c2 := fun s (hs : s.length ≤ 10000000000) => ofD_ok 1 [s] (by decide) (by simp) (by have := Wire.bytes_length s; simp [partsB]; omega)
    replace c2 := c2 _ (hx.get 0)
    rw [hb] at c1
    generalize digD 1 [x.getD 0 []] = X at *
    refine VC.cond (by rfl) (fun hb => ?_) (fun hb => ?_) <;> (try simp only [decide_eq_true_eq, decide_eq_false_iff_not, Bool.not_eq_true', Bool.not_eq_false'] at hb) <;> (try (exfalso; omega))
    refine S_ ?_
    refine VC.cond (by rfl) (fun hb => ?_) (fun hb => ?_) <;> (try simp only [decide_eq_true_eq, decide_eq_false_iff_not, Bool.not_eq_true', Bool.not_eq_false'] at hb) <;> (try (exfalso; omega))
    refine S_ ?_
    refine VC.draw [(0, []), (1, [0]), (2, []), (3, [2]), (4, [2, 3]), (5, [2, 3, 4]), (6, [0, 1, 2, 3, 4, 5]), (7, [0, 1, 2, 3, 4, 5, 6]), (8, [0, 1, 2, 3, 4, 5, 6, 7]), (9, [0, 1, 2, 3, 4, 5, 6, 7, 8]), (10, [0, 1, 2, 3, 4, 5, 6, 7, 8, 9]), (11, [0, 1, 2, 3, 4, 5, 6, 7, 8, 9, 10])] [] (by rfl) (by kernel_rfl) (by rfl) (by rfl) ?_
    refine D_ ?_
    refine DSeq.callp false (c1) Tryd.func11 gK_ok subG.refl (by rfl) (by rfl) (by rfl) (by rfl) (by rfl) rfl rfl rfl rfl rfl (by rfl) (by rfl) VW_ NI_ NI_ FR_ ?_
    refine D_ ?_
    refine DSeq.callp true (c2) Tryd.func24 gK_ok subG.refl (by rfl) (by rfl) (by rfl) (by rfl) (by rfl) rfl rfl rfl rfl rfl (by rfl) (by rfl) ?_ NI_ NI_ FR_ ?_
    · repeat' (first | exact View.rel ⟨rfl, rfl⟩ | (refine View.sln (by rfl) (by rfl) (by (first | exact trivial | exact u8_in _ rfl | exact u32_in _ rfl | ((with_reducible refine AllP.guard ?_); simp only [AllP, inI, fitV, maxK, inK, inbL, inb, List.append, List.cons_append, List.nil_append, true_and, and_true]; first | done | omega))) ?_ ⟨rfl, rfl⟩ ?_ ?_) | exact View.nil | exact View.emp | refine View.pair ?_ ?_ | refine View.fn ?_ ?_ | refine View.ptr (by rfl) (by rfl) (by (first | exact trivial | exact u8_in _ rfl | exact u32_in _ rfl | ((with_reducible refine AllP.guard ?_); simp only [AllP, inI, fitV, maxK, inK, inbL, inb, List.append, List.cons_append, List.nil_append, true_and, and_true]; first | done | omega))) ⟨rfl, rfl⟩ ?_ | exact View.rel (NoId.self (by first | ((repeat' (first | exact trivial | exact rfl | refine NoFr.bif ?_ ?_ | refine NoId.bif ?_ ?_ | refine AllFr.bif ?_ ?_ | (intro i hi) | (refine ⟨?_, ?_⟩) | (intro e; cases e; done))); done) | fail)) | (exact NoId.self (by first | ((repeat' (first | exact trivial | exact rfl | refine NoFr.bif ?_ ?_ | refine NoId.bif ?_ ?_ | refine AllFr.bif ?_ ?_ | (intro i hi) | (refine ⟨?_, ?_⟩) | (intro e; cases e; done))); done) | fail)) | exact ⟨rfl, rfl⟩ | (refine View.rel ?_; repeat' (first | exact EnvLe.nil | exact HeapLe.nil | with_reducible apply EnvLe.cons | with_reducible apply HeapLe.cons | (with_reducible refine RelA.int ?_; first | (refine Keep.mk ?_; first | with_reducible rfl | omega | decide) | skip) | exact rfl | exact ⟨rfl, rfl⟩ | (with_reducible refine RelA.rsl ?_; intro i hi) | (with_reducible refine RelA.arr ?_; intro i hi) | with_reducible refine RelA.pair ?_ ?_ | with_reducible refine RelA.rptr ?_ | (with_reducible refine RelA.rslw ?_; intro i hi) | (refine RelA.rsl ?_; intro i hi) | (refine RelA.rslw ?_; intro i hi) | (refine RelA.arr ?_; intro i hi) | refine RelA.pair ?_ ?_ | refine RelA.tup ?_ | exact RelA.bif_int | refine RelA.fn ?_ ?_)) <;> (try with_reducible refine Keep.mk ?_))
      · omega
      · rfl
      · intro i hi
        have hi : i < 1 := hi
        obtain rfl : i = 0 := by omega
        exact rfl
    refine D_ ?_
    refine DSeq.eqarr (true) tt_ok (by rfl) (by rfl) (by rfl) (by rfl) (by rfl) (by rfl) (by kernel_rfl) (by rfl) (by rfl) (by rfl) ⟨fun _ i hi => rfl, fun _ => rfl⟩ (by rfl) ?_
    refine D_ ?_
    refine DSeq.callp false (cl) Tryd.func18 gK_ok subG.refl (by rfl) (by rfl) (by rfl) (by rfl) (by rfl) rfl rfl rfl rfl rfl (by rfl) (by rfl) VW_ NI_ NI_ FR_ ?_
    refine D_ ?_
    refine S_ ?_
    exact retQ_ok (by rfl) [] nil_sub ⟨rfl, rfl⟩
  have q1 := Tree.half_lt (n := x.length) (by omega)
  have q2 := Tree.half_pos (n := x.length) (by omega)
  have q3 := Tree.half_le (n := x.length) (by omega)
  refine VC.cond (by rfl) (fun hb => ?_) (fun hb => ?_) <;> (try simp only [decide_eq_true_eq, decide_eq_false_iff_not, Bool.not_eq_true', Bool.not_eq_false'] at hb) <;> (try (exfalso; omega))
  refine S_ ?_
  refine VC.cond (by rfl) (fun hb => ?_) (fun hb => ?_) <;> (try simp only [decide_eq_true_eq, decide_eq_false_iff_not, Bool.not_eq_true', Bool.not_eq_false'] at hb) <;> (try (exfalso; omega))
  refine S_ ?_
  refine VC.loop (fun k : Nat => ⟨[(4, .int .i64 (k : Nat)), (3, strs x)], [], gK, 1⟩) (fun k => 1 ≤ k ∧ k ≤ x.length ∧ ∃ f, x.length ≤ k + f ∧ Tree.half x.length = Tree.halfF x.length k f) (fun k => x.length - k) 1 ⟨by omega, by omega, x.length, by omega, rfl⟩ (by refine Sim.less [] (by rfl) ?_ ?_ <;> (repeat' (first | with_reducible refine relA_strs ?_ | first | exact EnvLe.nil | exact HeapLe.nil | with_reducible apply EnvLe.cons | with_reducible apply HeapLe.cons | (with_reducible refine RelA.int ?_; first | (refine Keep.mk ?_; first | with_reducible rfl | omega | decide) | skip) | exact rfl | exact ⟨rfl, rfl⟩ | (with_reducible refine RelA.rsl ?_; intro i hi) | (with_reducible refine RelA.arr ?_; intro i hi) | with_reducible refine RelA.pair ?_ ?_ | with_reducible refine RelA.rptr ?_ | (with_reducible refine RelA.rslw ?_; intro i hi) | (refine RelA.rsl ?_; intro i hi) | (refine RelA.rslw ?_; intro i hi) | (refine RelA.arr ?_; intro i hi) | refine RelA.pair ?_ ?_ | refine RelA.tup ?_ | exact RelA.bif_int | refine RelA.fn ?_ ?_)) <;> (try with_reducible refine Keep.mk ?_)) fun k hk => ?_
  obtain ⟨k1, k2, f, k3, k4⟩ := hk
  refine S_ ?_
  refine VC.cond (by rfl) (fun hb => ?_) (fun hb => ?_) <;> (try simp only [decide_eq_true_eq, decide_eq_false_iff_not, Bool.not_eq_true', Bool.not_eq_false'] at hb) <;> (try (exfalso; omega))
  · refine S_ ?_
    refine ⟨2 * k, ⟨by omega, by omega, ?_⟩, by omega, ?_⟩
    · cases f with
      | zero => omega
      | succ f => exact ⟨f, by omega, by rw [k4, Tree.halfF, if_pos (by omega)]⟩
    · refine Sim.less [] (by rfl) ?_ ?_ <;> (repeat' (first | with_reducible refine relA_strs ?_ | first | exact EnvLe.nil | exact HeapLe.nil | with_reducible apply EnvLe.cons | with_reducible apply HeapLe.cons | (with_reducible refine RelA.int ?_; first | (refine Keep.mk ?_; first | with_reducible rfl | omega | decide) | skip) | exact rfl | exact ⟨rfl, rfl⟩ | (with_reducible refine RelA.rsl ?_; intro i hi) | (with_reducible refine RelA.arr ?_; intro i hi) | with_reducible refine RelA.pair ?_ ?_ | with_reducible refine RelA.rptr ?_ | (with_reducible refine RelA.rslw ?_; intro i hi) | (refine RelA.rsl ?_; intro i hi) | (refine RelA.rslw ?_; intro i hi) | (refine RelA.arr ?_; intro i hi) | refine RelA.pair ?_ ?_ | refine RelA.tup ?_ | exact RelA.bif_int | refine RelA.fn ?_ ?_)) <;> (try with_reducible refine Keep.mk ?_)
  · have hk : Tree.half x.length = k := by
      rw [k4]
      cases f with
      | zero => rfl
      | succ f => rw [Tree.halfF, if_neg (by omega)]
    have hb := rootB_split x (by omega)
    rw [hk] at hb q1 q2 q3
    have d1 := rootB_length (x.take k)
    have d2 := rootB_length (x.drop k)
    have c2 := root_ok (x.take k) (hx.take k)
    have c3 := root_ok (x.drop k) (hx.drop k)
    have c4 := ofD_ok 2 [rootB (x.take k), rootB (x.drop k)] (by decide) (by simp) (by have := Wire.bytes_length (rootB (x.take k)); have := Wire.bytes_length (rootB (x.drop k)); simp [partsB]; omega)
    rw [hb] at c1
    clear k4 hk hb
    generalize hY : rootB (x.take k) = Y at *
    generalize hZ : rootB (x.drop k) = Z at *
    refine S_ ?_
    refine VC.draw [(0, []), (1, []), (2, [1]), (3, []), (4, [1, 2, 3]), (5, [0, 1, 2, 3, 4]), (6, [0, 1, 2, 3, 4, 5]), (7, [0, 1, 2, 3, 4, 5, 6]), (8, [0, 1, 2, 3, 4, 5, 6, 7]), (9, [0, 1, 2, 3, 4, 5, 6]), (10, [0, 1, 2, 3, 4, 5, 6]), (11, [0, 1, 2, 3, 4, 5, 6, 9, 10]), (12, [0, 1, 2, 3, 4, 5, 6, 7, 8, 9, 10, 11]), (13, [0, 1, 2, 3, 4, 5, 6, 7, 8, 9, 10, 11, 12]), (14, [0, 1, 2, 3, 4, 5, 6]), (15, [0, 1, 2, 3, 4, 5, 6]), (16, [0, 1, 2, 3, 4, 5, 6, 14, 15]), (17, [0, 1, 2, 3, 4, 5, 6, 7, 8, 9, 10, 11, 12, 13, 14, 15, 16]), (18, [0, 1, 2, 3, 4, 5, 6, 7, 8, 9, 10, 11, 12, 13, 14, 15, 16, 17]), (19, [0, 1, 2, 3, 4, 5, 6, 7, 8, 9, 10, 11, 12, 13, 14, 15, 16, 17, 18]), (20, [0, 1, 2, 3, 4, 5, 6, 7, 8, 9, 10, 11, 12, 13, 14, 15, 16, 17, 18, 19]), (21, [0, 1, 2, 3, 4, 5, 6, 7, 8, 9, 10, 11, 12, 13, 14, 15, 16, 17, 18, 19, 20]), (22, [0, 1, 2, 3, 4, 5, 6, 7, 8, 9, 10, 11, 12, 13, 14, 15, 16, 17, 18, 19, 20, 21]), (23, [0, 1, 2, 3, 4, 5, 6, 7, 8, 9, 10, 11, 12, 13, 14, 15, 16, 17, 18, 19, 20, 21, 22]), (24, [0, 1, 2, 3, 4, 5, 6, 7, 8, 9, 10, 11, 12, 13, 14, 15, 16, 17, 18, 19, 20, 21, 22, 23]), (25, [0, 1, 2, 3, 4, 5, 6, 7, 8, 9, 10, 11, 12, 13, 14, 15, 16, 17, 18, 19, 20, 21, 22, 23, 24]), (26, [0, 1, 2, 3, 4, 5, 6, 7, 8, 9, 10, 11, 12, 13, 14, 15, 16, 17, 18, 19, 20, 21, 22, 23, 24, 25])] [] (by rfl) (by kernel_rfl) (by rfl) (by rfl) ?_
    refine D_ ?_
    rw [decide_eq_true (show ((x.length : Nat) : Int) - (k : Int) ≤ (k : Int) by omega)]
    refine D_ ?_
    refine DSeq.callp false (c1) Tryd.func11 gK_ok subG.refl (by rfl) (by rfl) (by rfl) (by rfl) (by rfl) rfl rfl rfl rfl rfl (by rfl) (by rfl) VW_ NI_ NI_ FR_ ?_
    refine D_ ?_
    refine DSeq.callp false (c2) Tryd.func11 gK_ok subG.refl (by rfl) (by rfl) (by rfl) (by rfl) (by rfl) rfl rfl rfl rfl rfl (by rfl) (by rfl) ?_ NI_ NI_ FR_ ?_
    · refine View.pair (View.rel (relA_strs2 (by rw [List.length_take]; omega) fun q hq => ?_)) (View.rel (NoId.self trivial))
      show AV.str (x.getD (0 + q) []) = _
      rw [Nat.zero_add, List.getD_eq_getElem?_getD, List.getD_eq_getElem?_getD, List.getElem?_take_of_lt (by omega)]
    refine D_ ?_
    refine DSeq.callp false (text_ok Y d1) Tryd.func25 gK_ok subG.nil (by rfl) (by rfl) (by rfl) (by rfl) (by rfl) rfl rfl rfl rfl rfl (by rfl) (by rfl) VW_ NI_ NI_ FR_ ?_
    refine D_ ?_
    refine DSeq.callp false (c3) Tryd.func11 gK_ok subG.refl (by rfl) (by rfl) (by rfl) (by rfl) (by rfl) rfl rfl rfl rfl rfl (by rfl) (by rfl) ?_ NI_ NI_ FR_ ?_
    · refine View.pair (View.rel (relA_strs2 (by rw [List.length_drop]; omega) fun q hq => ?_)) (View.rel (NoId.self trivial))
      show AV.str (x.getD ((k : Int).toNat + q) []) = _
      rw [Int.toNat_natCast, List.getD_eq_getElem?_getD, List.getD_eq_getElem?_getD, List.getElem?_drop]
    refine D_ ?_
    refine DSeq.callp false (text_ok Z d2) Tryd.func25 gK_ok subG.nil (by rfl) (by rfl) (by rfl) (by rfl) (by rfl) rfl rfl rfl rfl rfl (by rfl) (by rfl) VW_ NI_ NI_ FR_ ?_
    refine D_ ?_
    refine DSeq.callp true (c4) Tryd.func24 gK_ok subG.refl (by rfl) (by rfl) (by rfl) (by rfl) (by rfl) rfl rfl rfl rfl rfl (by rfl) (by rfl) ?_ NI_ NI_ FR_ ?_
    · repeat' (first | exact View.rel ⟨rfl, rfl⟩ | (refine View.sln (by rfl) (by rfl) (by (first | exact trivial | exact u8_in _ rfl | exact u32_in _ rfl | ((with_reducible refine AllP.guard ?_); simp only [AllP, inI, fitV, maxK, inK, inbL, inb, List.append, List.cons_append, List.nil_append, true_and, and_true]; first | done | omega))) ?_ ⟨rfl, rfl⟩ ?_ ?_) | exact View.nil | exact View.emp | refine View.pair ?_ ?_ | refine View.fn ?_ ?_ | refine View.ptr (by rfl) (by rfl) (by (first | exact trivial | exact u8_in _ rfl | exact u32_in _ rfl | ((with_reducible refine AllP.guard ?_); simp only [AllP, inI, fitV, maxK, inK, inbL, inb, List.append, List.cons_append, List.nil_append, true_and, and_true]; first | done | omega))) ⟨rfl, rfl⟩ ?_ | exact View.rel (NoId.self (by first | ((repeat' (first | exact trivial | exact rfl | refine NoFr.bif ?_ ?_ | refine NoId.bif ?_ ?_ | refine AllFr.bif ?_ ?_ | (intro i hi) | (refine ⟨?_, ?_⟩) | (intro e; cases e; done))); done) | fail)) | (exact NoId.self (by first | ((repeat' (first | exact trivial | exact rfl | refine NoFr.bif ?_ ?_ | refine NoId.bif ?_ ?_ | refine AllFr.bif ?_ ?_ | (intro i hi) | (refine ⟨?_, ?_⟩) | (intro e; cases e; done))); done) | fail)) | exact ⟨rfl, rfl⟩ | (refine View.rel ?_; repeat' (first | exact EnvLe.nil | exact HeapLe.nil | with_reducible apply EnvLe.cons | with_reducible apply HeapLe.cons | (with_reducible refine RelA.int ?_; first | (refine Keep.mk ?_; first | with_reducible rfl | omega | decide) | skip) | exact rfl | exact ⟨rfl, rfl⟩ | (with_reducible refine RelA.rsl ?_; intro i hi) | (with_reducible refine RelA.arr ?_; intro i hi) | with_reducible refine RelA.pair ?_ ?_ | with_reducible refine RelA.rptr ?_ | (with_reducible refine RelA.rslw ?_; intro i hi) | (refine RelA.rsl ?_; intro i hi) | (refine RelA.rslw ?_; intro i hi) | (refine RelA.arr ?_; intro i hi) | refine RelA.pair ?_ ?_ | refine RelA.tup ?_ | exact RelA.bif_int | refine RelA.fn ?_ ?_)) <;> (try with_reducible refine Keep.mk ?_))
      · omega
      · rfl
      · intro i hi
        have hi : i < 2 := hi
        rcases (by omega : i = 0 ∨ i = 1) with rfl | rfl <;> exact rfl
    refine D_ ?_
    refine DSeq.eqarr (true) tt_ok (by rfl) (by rfl) (by rfl) (by rfl) (by rfl) (by rfl) (by kernel_rfl) (by rfl) (by rfl) (by rfl) ⟨fun _ i hi => rfl, fun _ => rfl⟩ (by rfl) ?_
    refine D_ ?_
    refine DSeq.callp false (cl) Tryd.func18 gK_ok subG.refl (by rfl) (by rfl) (by rfl) (by rfl) (by rfl) rfl rfl rfl rfl rfl (by rfl) (by rfl) VW_ NI_ NI_ FR_ ?_
    refine D_ ?_
    refine S_ ?_
    exact retQ_ok (by rfl) [] nil_sub ⟨rfl, rfl⟩
end Go.Proofs.YtbphmbmdkojbnaaDoor
