
/- tree.rootOf, tree.Root; dioramaref39.Half, Leaf, Node, Root. -/
import Derived.Test.YtbphmbmdkojbnaaDoorTd
set_option linter.unusedSimpArgs false
set_option linter.unusedVariables false
namespace Go.Proofs.YtbphmbmdkojbnaaDoor
open Go.V Go.RowKit Go.U Go.L
theorem relA_strs2 {D : Nat → Prop} {σ : Nat → Nat} {n : Nat} {fr : Bool} {l : List (List UInt8)} {f : Nat → AV} (h1 : n = l.length) (h2 : ∀ i, i < n → f i = .str (l.getD i [])) : RelA D σ (strs l) (.rsl fr n 1 f) := by
  subst h1
  exact ⟨fr, f, rfl, (fun e => by cases e), fun i hi => h2 i hi⟩
def rootB (l : List (List UInt8)) : List UInt8 := if l = [] then digD 2 [] else rootD l 0 l.length
theorem rootB_length (l : List (List UInt8)) : (rootB l).length = 16 := by
  unfold rootB
  split
  · exact digD_length _ _
  · rename_i h
    exact rootD_length l 0 _ (List.length_pos_iff.2 h)
theorem rootD_take (l : List (List UInt8)) (k : Nat) (h1 : 1 ≤ k) (h2 : k ≤ l.length) : rootB (l.take k) = rootD l 0 k := by
  have hne : l.take k ≠ [] := fun e => by have h3 := congrArg List.length e; rw [List.length_take, List.length_nil] at h3; omega
  unfold rootB
  rw [if_neg hne, List.length_take, Nat.min_eq_left h2]
  have := Tree.rootR_part leafD nodeD [] l 0 k 0 k h1 (by omega)
  rwa [List.drop_zero, Nat.zero_add] at this
theorem rootD_part (l : List (List UInt8)) (o k : Nat) (h1 : 1 ≤ k) (h2 : o + k ≤ l.length) : rootB ((l.drop o).take k) = rootD l o k := by
  have hlen : ((l.drop o).take k).length = k := by rw [List.length_take, List.length_drop]; omega
  have hne : (l.drop o).take k ≠ [] := fun e => by rw [e] at hlen; simp at hlen; omega
  unfold rootB
  rw [if_neg hne, hlen]
  exact Tree.rootR_part leafD nodeD [] l o k 0 k h1 (by omega)
theorem LOk.part {l : List (List UInt8)} (h : LOk l) (o k : Nat) : LOk ((l.drop o).take k) :=
  ⟨by have := h.1; rw [List.length_take, List.length_drop]; omega, fun s hs => h.2 s (List.mem_of_mem_drop (List.mem_of_mem_take hs))⟩
theorem LOk.drop {l : List (List UInt8)} (h : LOk l) (o : Nat) : LOk (l.drop o) := ⟨by have := h.1; rw [List.length_drop]; omega, fun s hs => h.2 s (List.mem_of_mem_drop hs)⟩
theorem LOk.take {l : List (List UInt8)} (h : LOk l) (o : Nat) : LOk (l.take o) := ⟨by have := h.1; rw [List.length_take]; omega, fun s hs => h.2 s (List.mem_of_mem_take hs)⟩
set_option maxRecDepth 10000 in
theorem rootOf_ok (l : List (List UInt8)) (hl : LOk l) (a n : Nat) (hn : 1 ≤ n) (hal : a + n ≤ l.length) : Ok Tryd.prog 27 gK [] (.pair (strs l) (.pair (.int .i64 (a : Nat)) (.pair (.int .i64 ((a + n : Nat) : Int)) .nul))) (fun r h' => r = digA (rootD l a n) ∧ h' = []) := by
  refine Ok.of_vc tt_ok Tryd.func27 rfl rfl (by show 3 ≤ _; decide) 0 (fun i av h => by cases h) fun c0 => ?_
  refine S_ ?_
  refine Seq.callp true (walkRoot_ok l hl a n hn hal) Tryd.func40 gK_ok subG.refl (by rfl) (by rfl) rfl rfl rfl rfl rfl (by rfl) rfl VW_ NI_ NI_ FR_ ?_
  refine S_ ?_
  exact retQ_ok (by rfl) [] nil_sub ⟨rfl, rfl⟩
set_option maxRecDepth 10000 in
theorem root_ok (l : List (List UInt8)) (hl : LOk l) : Ok Tryd.prog 11 gK [] (.pair (strs l) .nul) (fun r h' => r = digA (rootB l) ∧ h' = []) := by
  have hl1 := hl.1
  refine Ok.of_vc tt_ok Tryd.func11 rfl rfl (by show 1 ≤ _; decide) 0 (fun i av h => by cases h) fun c0 => ?_
  refine S_ ?_
  refine VC.cond (by rfl) (fun hb => ?_) (fun hb => ?_) <;> (try simp only [decide_eq_true_eq, decide_eq_false_iff_not, Bool.not_eq_true', Bool.not_eq_false'] at hb) <;> (try (exfalso; omega))
  · have hl0 : l = [] := List.length_eq_zero_iff.1 (by omega)
    subst hl0
    refine S_ ?_
    refine Seq.callp false (ofD_ok 2 [] (by decide) (by decide) (by decide)) Tryd.func24 gK_ok subG.refl (by rfl) (by rfl) rfl rfl rfl rfl rfl (by rfl) rfl VW_ NI_ NI_ FR_ ?_
    refine S_ ?_
    exact retQ_ok (by rfl) [] nil_sub ⟨rfl, rfl⟩
  · have hne : l ≠ [] := fun e => hb (by rw [e]; rfl)
    have hpos := (List.length_pos_iff.2 hne)
    have hr : rootB l = rootD l 0 l.length := by unfold rootB; rw [if_neg hne]
    have c1 := rootOf_ok l hl 0 l.length hpos (by omega)
    rw [Nat.zero_add] at c1
    rw [hr]
    refine S_ ?_
    refine Seq.callp false (c1) Tryd.func27 gK_ok subG.refl (by rfl) (by rfl) rfl rfl rfl rfl rfl (by rfl) rfl VW_ NI_ NI_ FR_ ?_
    refine S_ ?_
    exact retQ_ok (by rfl) [] nil_sub ⟨rfl, rfl⟩
/- The reference. -/
theorem refHalf_ok (n : Nat) (h1 : 1 ≤ n) (hn : n ≤ 1099511627776) : Ok Tryd.prog 30 [] [] (.pair (.int .i64 (n : Nat)) .nul) (fun r h' => r = .int .i64 (Tree.half n : Nat) ∧ h' = []) := by
  refine Ok.of_vc tt_ok Tryd.func30 rfl rfl (by show 1 ≤ _; decide) 0 (fun i av h => by cases h) fun c0 => ?_
  refine S_ ?_
  refine VC.loop (fun k : Nat => ⟨[(3, .int .i64 (k : Nat)), (0, .int .i64 (n : Nat))], [], [], 0⟩) (fun k => 1 ≤ k ∧ k ≤ n ∧ ∃ f, n ≤ k + f ∧ Tree.half n = Tree.halfF n k f) (fun k => n - k) 1 ⟨by omega, h1, n, by omega, rfl⟩ (by refine Sim.less [] (by rfl) ?_ ?_ <;> (repeat' (first | exact EnvLe.nil | exact HeapLe.nil | with_reducible apply EnvLe.cons | with_reducible apply HeapLe.cons | (with_reducible refine RelA.int ?_; first | (refine Keep.mk ?_; first | with_reducible rfl | omega | decide) | skip) | exact rfl | exact ⟨rfl, rfl⟩ | (with_reducible refine RelA.rsl ?_; intro i hi) | (with_reducible refine RelA.arr ?_; intro i hi) | with_reducible refine RelA.pair ?_ ?_ | with_reducible refine RelA.rptr ?_ | (with_reducible refine RelA.rslw ?_; intro i hi) | (refine RelA.rsl ?_; intro i hi) | (refine RelA.rslw ?_; intro i hi) | (refine RelA.arr ?_; intro i hi) | refine RelA.pair ?_ ?_ | refine RelA.tup ?_ | ((first | refine RelA.rslL (by first | rfl | ((try simp only [List.length_take, List.length_drop, List.length_append, List.length_cons, List.length_nil, List.length_map, List.length_range]); omega)) ?_ | refine RelA.rslT (by first | rfl | ((try simp only [List.length_take, List.length_drop, List.length_append, List.length_cons, List.length_nil, List.length_map, List.length_range]); omega)) ?_ | refine RelA.arrL (by first | rfl | ((try simp only [List.length_take, List.length_drop, List.length_append, List.length_cons, List.length_nil, List.length_map, List.length_range]); omega)) ?_); intro i hi; (try simp only [List.length_take, List.length_drop] at hi); (try simp (disch := omega) only [getD_take, getD_drop, Nat.zero_add, Int.toNat_natCast])) | exact RelA.bif_int | refine RelA.fn ?_ ?_)) <;> (try with_reducible refine Keep.mk ?_)) fun k hk => ?_
  obtain ⟨k1, k2, f, k3, k4⟩ := hk
  refine S_ ?_
  refine VC.cond (by rfl) (fun hb => ?_) (fun hb => ?_) <;> (try simp only [decide_eq_true_eq, decide_eq_false_iff_not, Bool.not_eq_true', Bool.not_eq_false'] at hb) <;> (try (exfalso; omega))
  · refine S_ ?_
    refine ⟨2 * k, ⟨by omega, by omega, ?_⟩, by omega, ?_⟩
    · cases f with
      | zero => omega
      | succ f => exact ⟨f, by omega, by rw [k4, Tree.halfF, if_pos (by omega)]⟩
    · refine Sim.less [] (by rfl) ?_ ?_ <;> (repeat' (first | exact EnvLe.nil | exact HeapLe.nil | with_reducible apply EnvLe.cons | with_reducible apply HeapLe.cons | (with_reducible refine RelA.int ?_; first | (refine Keep.mk ?_; first | with_reducible rfl | omega | decide) | skip) | exact rfl | exact ⟨rfl, rfl⟩ | (with_reducible refine RelA.rsl ?_; intro i hi) | (with_reducible refine RelA.arr ?_; intro i hi) | with_reducible refine RelA.pair ?_ ?_ | with_reducible refine RelA.rptr ?_ | (with_reducible refine RelA.rslw ?_; intro i hi) | (refine RelA.rsl ?_; intro i hi) | (refine RelA.rslw ?_; intro i hi) | (refine RelA.arr ?_; intro i hi) | refine RelA.pair ?_ ?_ | refine RelA.tup ?_ | ((first | refine RelA.rslL (by first | rfl | ((try simp only [List.length_take, List.length_drop, List.length_append, List.length_cons, List.length_nil, List.length_map, List.length_range]); omega)) ?_ | refine RelA.rslT (by first | rfl | ((try simp only [List.length_take, List.length_drop, List.length_append, List.length_cons, List.length_nil, List.length_map, List.length_range]); omega)) ?_ | refine RelA.arrL (by first | rfl | ((try simp only [List.length_take, List.length_drop, List.length_append, List.length_cons, List.length_nil, List.length_map, List.length_range]); omega)) ?_); intro i hi; (try simp only [List.length_take, List.length_drop] at hi); (try simp (disch := omega) only [getD_take, getD_drop, Nat.zero_add, Int.toNat_natCast])) | exact RelA.bif_int | refine RelA.fn ?_ ?_)) <;> (try with_reducible refine Keep.mk ?_)
  · refine S_ ?_
    have : Tree.half n = k := by
      rw [k4]
      cases f with
      | zero => rfl
      | succ f => rw [Tree.halfF, if_neg (by omega)]
    rw [this]
    exact retQ_ok (by rfl) [] nil_sub ⟨rfl, rfl⟩
theorem refOfD_ok (t : Int) (ps : List (List UInt8)) (ht : -9223372036854775808 ≤ t ∧ t ≤ 9223372036854775807) (hl : ps.length ≤ 1000000000) (hps : (partsB ps).length ≤ 100000000000) : Ok Tryd.prog 28 gR [] (.pair (.int .i64 t) (.pair (strs ps) .nul)) (fun r h' => r = digA (digD t ps) ∧ h' = []) := by
  have := refOf_ok t ps ht hl hps
  unfold digD
  exact this
set_option maxRecDepth 10000 in
theorem refLeaf_ok (s : List UInt8) (hs : s.length ≤ 10000000000) : Ok Tryd.prog 29 gR [] (.pair (.str s) .nul) (fun r h' => r = digA (leafD s) ∧ h' = []) := by
  refine Ok.of_vc tt_ok Tryd.func29 rfl rfl (by show 1 ≤ _; decide) 0 (fun i av h => by cases h) fun c0 => ?_
  have c1 := refOfD_ok 1 [s] (by decide) (by simp) (by have := Wire.bytes_length s; simp [partsB]; omega)
  refine S_ ?_
  refine Seq.callp true (c1) Tryd.func28 gR_ok subG.refl (by rfl) (by rfl) rfl rfl rfl rfl rfl (by rfl) rfl ?_ NI_ NI_ FR_ ?_
  · repeat' (first | exact View.rel ⟨rfl, rfl⟩ | (refine View.sln (by rfl) (by rfl) (by (first | exact trivial | exact u8_in _ rfl | exact u32_in _ rfl | ((with_reducible refine AllP.guard ?_); simp only [AllP, inI, fitV, maxK, inK, inbL, inb, List.append, List.cons_append, List.nil_append, true_and, and_true]; first | done | omega))) ?_ ⟨rfl, rfl⟩ ?_ ?_) | exact View.nil | exact View.emp | refine View.pair ?_ ?_ | refine View.fn ?_ ?_ | refine View.ptr (by rfl) (by rfl) (by (first | exact trivial | exact u8_in _ rfl | exact u32_in _ rfl | ((with_reducible refine AllP.guard ?_); simp only [AllP, inI, fitV, maxK, inK, inbL, inb, List.append, List.cons_append, List.nil_append, true_and, and_true]; first | done | omega))) (by rfl) ⟨rfl, rfl⟩ ?_ | exact View.rel (NoId.self (by first | ((repeat' (first | exact trivial | exact rfl | refine NoFr.bif ?_ ?_ | refine NoId.bif ?_ ?_ | refine AllFr.bif ?_ ?_ | (intro i hi) | (refine ⟨?_, ?_⟩) | (intro e; cases e; done))); done) | fail)) | (exact NoId.self (by first | ((repeat' (first | exact trivial | exact rfl | refine NoFr.bif ?_ ?_ | refine NoId.bif ?_ ?_ | refine AllFr.bif ?_ ?_ | (intro i hi) | (refine ⟨?_, ?_⟩) | (intro e; cases e; done))); done) | fail)) | exact ⟨rfl, rfl⟩ | (refine View.rel ?_; repeat' (first | exact EnvLe.nil | exact HeapLe.nil | with_reducible apply EnvLe.cons | with_reducible apply HeapLe.cons | (with_reducible refine RelA.int ?_; first | (refine Keep.mk ?_; first | with_reducible rfl | omega | decide) | skip) | exact rfl | exact ⟨rfl, rfl⟩ | (with_reducible refine RelA.rsl ?_; intro i hi) | (with_reducible refine RelA.arr ?_; intro i hi) | with_reducible refine RelA.pair ?_ ?_ | with_reducible refine RelA.rptr ?_ | (with_reducible refine RelA.rslw ?_; intro i hi) | (refine RelA.rsl ?_; intro i hi) | (refine RelA.rslw ?_; intro i hi) | (refine RelA.arr ?_; intro i hi) | refine RelA.pair ?_ ?_ | refine RelA.tup ?_ | ((first | refine RelA.rslL (by first | rfl | ((try simp only [List.length_take, List.length_drop, List.length_append, List.length_cons, List.length_nil, List.length_map, List.length_range]); omega)) ?_ | refine RelA.rslT (by first | rfl | ((try simp only [List.length_take, List.length_drop, List.length_append, List.length_cons, List.length_nil, List.length_map, List.length_range]); omega)) ?_ | refine RelA.arrL (by first | rfl | ((try simp only [List.length_take, List.length_drop, List.length_append, List.length_cons, List.length_nil, List.length_map, List.length_range]); omega)) ?_); intro i hi; (try simp only [List.length_take, List.length_drop] at hi); (try simp (disch := omega) only [getD_take, getD_drop, Nat.zero_add, Int.toNat_natCast])) | exact RelA.bif_int | refine RelA.fn ?_ ?_)) <;> (try with_reducible refine Keep.mk ?_))
    · omega
    · rfl
    · intro i hi
      have hi : i < 1 := hi
      obtain rfl : i = 0 := by omega
      exact rfl
  refine S_ ?_
  exact retQ_ok (by rfl) [] nil_sub ⟨rfl, rfl⟩
set_option maxRecDepth 10000 in
theorem refNode_ok (a b : List UInt8) (ha : a.length = 16) (hb : b.length = 16) : Ok Tryd.prog 31 gR [] (.pair (digA a) (.pair (digA b) .nul)) (fun r h' => r = digA (nodeD a b) ∧ h' = []) := by
  refine Ok.of_vc tt_ok Tryd.func31 rfl rfl (by show 2 ≤ _; decide) 0 (fun i av h => by cases h) fun c0 => ?_
  have c1 := refOfD_ok 2 [a, b] (by decide) (by simp) (by have := Wire.bytes_length a; have := Wire.bytes_length b; simp [partsB]; omega)
  refine S_ ?_
  refine VC.draw (mkP [(0, 0), (1, 1), (2, 0), (3, 4), (4, 15), (5, 31)]) [6] (by rfl) (by kernel_rfl) (by rfl) (by rfl) ?_
  refine D_ ?_
  refine DSeq.str a tt_ok (by rfl) (fastE (by rfl)) (fastH (by rfl)) (by rfl) (by rfl) (by rfl) (by rfl) (by rfl) (by (first | exact trivial | exact u8_in _ rfl | exact u32_in _ rfl | ((with_reducible refine AllP.guard ?_); simp only [AllP, inI, fitV, maxK, inK, inbL, inb, List.append, List.cons_append, List.nil_append, true_and, and_true]; first | done | omega))) (by rfl) (.inl rfl) (by rfl) (by rfl) ?_ ?_ ?_
  · exact ha
  · exact fun i hi => by rw [Nat.zero_add]
  refine D_ ?_
  refine DSeq.str b tt_ok (by rfl) (fastE (by rfl)) (fastH (by rfl)) (by rfl) (by rfl) (by rfl) (by rfl) (by rfl) (by (first | exact trivial | exact u8_in _ rfl | exact u32_in _ rfl | ((with_reducible refine AllP.guard ?_); simp only [AllP, inI, fitV, maxK, inK, inbL, inb, List.append, List.cons_append, List.nil_append, true_and, and_true]; first | done | omega))) (by rfl) (.inl rfl) (by rfl) (by rfl) ?_ ?_ ?_
  · exact hb
  · exact fun i hi => by rw [Nat.zero_add]
  refine D_ ?_
  refine DSeq.callp true (c1) Tryd.func28 gR_ok subG.refl (by rfl) (fastE (by rfl)) (fastH (by rfl)) (by rfl) (by rfl) rfl rfl rfl rfl rfl (by rfl) (by rfl) ?_ NI_ NI_ FR_ ?_
  · repeat' (first | exact View.rel ⟨rfl, rfl⟩ | (refine View.sln (by rfl) (by rfl) (by (first | exact trivial | exact u8_in _ rfl | exact u32_in _ rfl | ((with_reducible refine AllP.guard ?_); simp only [AllP, inI, fitV, maxK, inK, inbL, inb, List.append, List.cons_append, List.nil_append, true_and, and_true]; first | done | omega))) ?_ ⟨rfl, rfl⟩ ?_ ?_) | exact View.nil | exact View.emp | refine View.pair ?_ ?_ | refine View.fn ?_ ?_ | refine View.ptr (by rfl) (by rfl) (by (first | exact trivial | exact u8_in _ rfl | exact u32_in _ rfl | ((with_reducible refine AllP.guard ?_); simp only [AllP, inI, fitV, maxK, inK, inbL, inb, List.append, List.cons_append, List.nil_append, true_and, and_true]; first | done | omega))) (by rfl) ⟨rfl, rfl⟩ ?_ | exact View.rel (NoId.self (by first | ((repeat' (first | exact trivial | exact rfl | refine NoFr.bif ?_ ?_ | refine NoId.bif ?_ ?_ | refine AllFr.bif ?_ ?_ | (intro i hi) | (refine ⟨?_, ?_⟩) | (intro e; cases e; done))); done) | fail)) | (exact NoId.self (by first | ((repeat' (first | exact trivial | exact rfl | refine NoFr.bif ?_ ?_ | refine NoId.bif ?_ ?_ | refine AllFr.bif ?_ ?_ | (intro i hi) | (refine ⟨?_, ?_⟩) | (intro e; cases e; done))); done) | fail)) | exact ⟨rfl, rfl⟩ | (refine View.rel ?_; repeat' (first | exact EnvLe.nil | exact HeapLe.nil | with_reducible apply EnvLe.cons | with_reducible apply HeapLe.cons | (with_reducible refine RelA.int ?_; first | (refine Keep.mk ?_; first | with_reducible rfl | omega | decide) | skip) | exact rfl | exact ⟨rfl, rfl⟩ | (with_reducible refine RelA.rsl ?_; intro i hi) | (with_reducible refine RelA.arr ?_; intro i hi) | with_reducible refine RelA.pair ?_ ?_ | with_reducible refine RelA.rptr ?_ | (with_reducible refine RelA.rslw ?_; intro i hi) | (refine RelA.rsl ?_; intro i hi) | (refine RelA.rslw ?_; intro i hi) | (refine RelA.arr ?_; intro i hi) | refine RelA.pair ?_ ?_ | refine RelA.tup ?_ | ((first | refine RelA.rslL (by first | rfl | ((try simp only [List.length_take, List.length_drop, List.length_append, List.length_cons, List.length_nil, List.length_map, List.length_range]); omega)) ?_ | refine RelA.rslT (by first | rfl | ((try simp only [List.length_take, List.length_drop, List.length_append, List.length_cons, List.length_nil, List.length_map, List.length_range]); omega)) ?_ | refine RelA.arrL (by first | rfl | ((try simp only [List.length_take, List.length_drop, List.length_append, List.length_cons, List.length_nil, List.length_map, List.length_range]); omega)) ?_); intro i hi; (try simp only [List.length_take, List.length_drop] at hi); (try simp (disch := omega) only [getD_take, getD_drop, Nat.zero_add, Int.toNat_natCast])) | exact RelA.bif_int | refine RelA.fn ?_ ?_)) <;> (try with_reducible refine Keep.mk ?_))
    · omega
    · rfl
    · intro i hi
      have hi : i < 2 := hi
      rcases (by omega : i = 0 ∨ i = 1) with rfl | rfl <;> exact rfl
  refine D_ ?_
  refine S_ ?_
  exact retQ_ok (by rfl) [] nil_sub ⟨rfl, rfl⟩
set_option maxRecDepth 10000 in
theorem refRoot_ok : ∀ (n : Nat) (l : List (List UInt8)), l.length = n → LOk l → Ok Tryd.prog 12 gR [] (.pair (strs l) .nul) (fun r h' => r = digA (rootB l) ∧ h' = []) := by
  intro n
  induction n using Nat.strongRecOn with
  | _ n ih =>
  intro l hn hl
  subst hn
  have hl1 := hl.1
  refine Ok.of_vc tt_ok Tryd.func12 rfl rfl (by show 1 ≤ _; decide) 0 (fun i av h => by cases h) fun c0 => ?_
  refine S_ ?_
  refine VC.cond (by rfl) (fun hb => ?_) (fun hb => ?_) <;> (try simp only [decide_eq_true_eq, decide_eq_false_iff_not, Bool.not_eq_true', Bool.not_eq_false'] at hb) <;> (try (exfalso; omega))
  · have hl0 : l = [] := List.length_eq_zero_iff.1 (by omega)
    subst hl0
    refine S_ ?_
    refine Seq.callp false (refOfD_ok 2 [] (by decide) (by decide) (by decide)) Tryd.func28 gR_ok subG.refl (by rfl) (by rfl) rfl rfl rfl rfl rfl (by rfl) rfl VW_ NI_ NI_ FR_ ?_
    refine S_ ?_
    exact retQ_ok (by rfl) [] nil_sub ⟨rfl, rfl⟩
  have hne : l ≠ [] := fun e => hb (by rw [e]; rfl)
  have hr : rootB l = rootD l 0 l.length := by unfold rootB; rw [if_neg hne]
  refine S_ ?_
  refine VC.cond (by rfl) (fun hb => ?_) (fun hb => ?_) <;> (try simp only [decide_eq_true_eq, decide_eq_false_iff_not, Bool.not_eq_true', Bool.not_eq_false'] at hb) <;> (try (exfalso; omega))
  · refine S_ ?_
    refine Seq.callp false (refLeaf_ok (l.getD 0 []) (hl.get 0)) Tryd.func29 gR_ok subG.refl (by rfl) (by rfl) rfl rfl rfl rfl rfl (by rfl) rfl VW_ NI_ NI_ FR_ ?_
    refine S_ ?_
    have h1 : l.length = 1 := by omega
    rw [hr, h1]
    exact retQ_ok (by rfl) [] nil_sub ⟨rfl, rfl⟩
  · have hpos := (List.length_pos_iff.2 hne)
    have q1 := Tree.half_lt (n := l.length) (by omega)
    have q2 := Tree.half_pos (n := l.length) (by omega)
    have i1 := ih (Tree.half l.length) q1 (l.take (Tree.half l.length)) (by rw [List.length_take]; omega) (hl.take _)
    have i2 := ih (l.length - Tree.half l.length) (by omega) (l.drop (Tree.half l.length)) (by rw [List.length_drop]) (hl.drop _)
    have hr2 : rootD l 0 l.length = nodeD (rootB (l.take (Tree.half l.length))) (rootB (l.drop (Tree.half l.length))) := by
      have h1 : rootD l 0 l.length = nodeD (rootD l 0 (Tree.half l.length)) (rootD l (0 + Tree.half l.length) (l.length - Tree.half l.length)) := Tree.rootR_node leafD nodeD [] l (by omega)
      rw [h1, rootD_take l _ q2 (by omega), ← rootD_part l (0 + Tree.half l.length) _ (by omega) (by omega), Nat.zero_add, List.take_of_length_le (by rw [List.length_drop]; omega)]
    have c3 := refHalf_ok l.length hpos (by omega)
    have d1 := rootB_length (l.take (Tree.half l.length))
    have d2 := rootB_length (l.drop (Tree.half l.length))
    rw [hr, hr2]
    generalize Tree.half l.length = k at *
    generalize hX : rootB (l.take k) = X at *
    generalize hY : rootB (l.drop k) = Y at *
    refine S_ ?_
    refine Seq.callp false (c3) Tryd.func30 gR_ok subG.nil (by rfl) (by rfl) rfl rfl rfl rfl rfl (by rfl) rfl VW_ NI_ NI_ FR_ ?_
    refine S_ ?_
    refine VC.draw (mkP [(0, 0), (1, 0), (2, 3), (3, 7), (4, 0), (5, 0), (6, 48), (7, 127), (8, 255)]) [9] (by rfl) (by kernel_rfl) (by rfl) (by rfl) ?_
    refine D_ ?_
    refine DSeq.callp false (i1) Tryd.func12 gR_ok subG.refl (by rfl) (fastE (by rfl)) (fastH (by rfl)) (by rfl) (by rfl) rfl rfl rfl rfl rfl (by rfl) (by rfl) ?_ NI_ NI_ FR_ ?_
    · refine View.pair (View.rel (relA_strs2 (by rw [List.length_take]; omega) fun q hq => ?_)) (View.rel (NoId.self trivial))
      show AV.str (l.getD (0 + q) []) = _
      rw [Nat.zero_add, List.getD_eq_getElem?_getD, List.getD_eq_getElem?_getD, List.getElem?_take_of_lt (by omega)]
    refine D_ ?_
    refine DSeq.callp false (i2) Tryd.func12 gR_ok subG.refl (by rfl) (fastE (by rfl)) (fastH (by rfl)) (by rfl) (by rfl) rfl rfl rfl rfl rfl (by rfl) (by rfl) ?_ NI_ NI_ FR_ ?_
    · refine View.pair (View.rel (relA_strs2 (by rw [List.length_drop]; omega) fun q hq => ?_)) (View.rel (NoId.self trivial))
      show AV.str (l.getD ((k : Int).toNat + q) []) = _
      rw [Int.toNat_natCast, List.getD_eq_getElem?_getD, List.getD_eq_getElem?_getD, List.getElem?_drop]
    refine D_ ?_
    refine DSeq.callp false (refNode_ok X Y d1 d2) Tryd.func31 gR_ok subG.refl (by rfl) (fastE (by rfl)) (fastH (by rfl)) (by rfl) (by rfl) rfl rfl rfl rfl rfl (by rfl) (by rfl) VW_ NI_ NI_ FR_ ?_
    refine D_ ?_
    refine S_ ?_
    exact retQ_ok (by rfl) [] nil_sub ⟨rfl, rfl⟩
end Go.Proofs.YtbphmbmdkojbnaaDoor
