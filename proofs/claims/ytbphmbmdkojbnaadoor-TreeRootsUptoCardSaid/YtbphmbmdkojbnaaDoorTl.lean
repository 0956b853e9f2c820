
/- tree.taker. -/
import Derived.Test.YtbphmbmdkojbnaaDoorTk
set_option linter.unusedSimpArgs false
set_option linter.unusedVariables false
namespace Go.Proofs.YtbphmbmdkojbnaaDoor
open Go.V Go.RowKit Go.U Go.L
def zeroD : List UInt8 := List.replicate 16 0
theorem zeroD_A : digA zeroD = zA := by
  unfold digA u8A zA
  congr 1
  funext i
  congr 1
  unfold zeroD
  rw [List.getD_eq_getElem?_getD]
  rcases Nat.lt_or_ge i 16 with h | h
  · rw [List.getElem?_replicate_of_lt h]; rfl
  · rw [List.getElem?_eq_none (by simpa using h)]; rfl
def DOk (L : List (List UInt8)) : Prop := L.length ≤ 1000000000 ∧ ∀ d ∈ L, d.length = 16
theorem DOk.get {L : List (List UInt8)} (h : DOk L) (i : Nat) : (L.getD i zeroD).length = 16 := by
  rcases Nat.lt_or_ge i L.length with hi | hi
  · rw [List.getD_eq_getElem?_getD, List.getElem?_eq_getElem hi]; exact h.2 _ (List.getElem_mem hi)
  · rw [List.getD_eq_getElem?_getD, List.getElem?_eq_none hi]; rfl
theorem dig_eq {a b : List UInt8} (ha : a.length = 16) (hb : b.length = 16) : (∀ i, i < 16 → ((a.getD i 0).toNat : Int) = ((b.getD i 0).toNat : Int)) ↔ a = b := by
  constructor
  · intro h
    refine List.ext_getElem (by omega) fun i h1 h2 => ?_
    have := h i (by omega)
    rw [List.getD_eq_getElem?_getD, List.getD_eq_getElem?_getD, List.getElem?_eq_getElem h1, List.getElem?_eq_getElem h2] at this
    have h3 : ((a[i].toNat : Nat) : Int) = ((b[i].toNat : Nat) : Int) := this
    exact UInt8.toNat_inj.1 (by omega)
  · rintro rfl i _; rfl
def digsV (L : List (List UInt8)) : AV := .rsl false L.length 16 (fun i => digA (L.getD i []))
def cntA (a b : Nat) : AV := .arr 2 1 (fun i => bif Nat.beq i 0 then .int .i64 (a : Nat) else .int .i64 (b : Nat))
def takerA (L : List (List UInt8)) (k : Nat) : AV := .pair (digsV L) (.pair (cntA (min k L.length) k) .nul)
set_option maxRecDepth 10000 in
theorem take_ok (L : List (List UInt8)) (hL : DOk L) (k : Nat) (hk : k ≤ 1099511627776) : Ok Tryd.prog 42 [] [(0, takerA L k)] (.pair (.ptr 0 []) .nul) (fun r h' => r = digA (L.getD k zeroD) ∧ h' = [(0, takerA L (k + 1))]) := by
  have hL1 := hL.1
  refine Ok.of_vc tt_ok Tryd.func42 rfl rfl (by show 1 ≤ _; decide) 1 (hlt_ok (by rfl)) fun c0 => ?_
  refine S_ ?_
  refine VC.draw (mkP [(0, 0), (1, 1), (2, 3), (3, 7), (4, 15), (5, 31), (6, 1), (7, 65), (8, 255)]) [9] (by rfl) (by kernel_rfl) (by rfl) (by rfl) ?_
  refine D_ ?_
  refine SQ_ ?_
  refine Seq.conv (s' := ⟨[(2, .ptr 1 []), (0, .ptr 0 [])], [(1, zA), (0, .pair (digsV L) (.pair (cntA (min k L.length) (k + 1)) .nul))], [], 2⟩) (by
    refine Sim.less [] (by rfl) ?_ ?_ <;> (repeat' (first | exact EnvLe.nil | exact HeapLe.nil | with_reducible apply EnvLe.cons | with_reducible apply HeapLe.cons | (with_reducible refine RelA.int ?_; first | (refine Keep.mk ?_; first | with_reducible rfl | omega | decide) | skip) | exact rfl | exact ⟨rfl, rfl⟩ | (with_reducible refine RelA.rsl ?_; intro i hi) | (with_reducible refine RelA.arr ?_; intro i hi) | with_reducible refine RelA.pair ?_ ?_ | with_reducible refine RelA.rptr ?_ | (with_reducible refine RelA.rslw ?_; intro i hi) | (refine RelA.rsl ?_; intro i hi) | (refine RelA.rslw ?_; intro i hi) | (refine RelA.arr ?_; intro i hi) | refine RelA.pair ?_ ?_ | refine RelA.tup ?_ | ((first | refine RelA.rslL (by first | rfl | ((try simp only [List.length_take, List.length_drop, List.length_append, List.length_cons, List.length_nil, List.length_map, List.length_range]); omega)) ?_ | refine RelA.rslT (by first | rfl | ((try simp only [List.length_take, List.length_drop, List.length_append, List.length_cons, List.length_nil, List.length_map, List.length_range]); omega)) ?_ | refine RelA.arrL (by first | rfl | ((try simp only [List.length_take, List.length_drop, List.length_append, List.length_cons, List.length_nil, List.length_map, List.length_range]); omega)) ?_); intro i hi; (try simp only [List.length_take, List.length_drop] at hi); (try simp (disch := omega) only [getD_take, getD_drop, Nat.zero_add, Int.toNat_natCast])) | exact RelA.bif_int | refine RelA.fn ?_ ?_)) <;> (try with_reducible refine Keep.mk ?_)
    rcases (by omega : i = 0 ∨ i = 1) with rfl | rfl
    · exact rfl
    · exact rfl) ?_
  refine S_ ?_
  refine VC.draw (mkP [(0, 0), (1, 1), (2, 3), (3, 7), (4, 15), (5, 0), (6, 32), (7, 96), (8, 224), (9, 480), (10, 1023)]) [] (by rfl) (by kernel_rfl) (by rfl) (by rfl) ?_
  refine D_ ?_
  refine S_ ?_
  refine VC.cond (by rfl) (fun hb => ?_) (fun hb => ?_) <;> (try simp only [decide_eq_true_eq, decide_eq_false_iff_not, Bool.not_eq_true', Bool.not_eq_false'] at hb) <;> (try (exfalso; omega))
  · refine S_ ?_
    refine retQ_ok (by rfl) [(0, takerA L (k + 1))] (subL_ok ⟨?_, trivial⟩) ⟨?_, rfl⟩
    · rw [show takerA L (k + 1) = .pair (digsV L) (.pair (cntA (min k L.length) (k + 1)) .nul) by unfold takerA; rw [show min (k + 1) L.length = min k L.length by omega]]
      rfl
    · rw [show L.getD k zeroD = zeroD by rw [List.getD_eq_getElem?_getD, List.getElem?_eq_none (by omega)]; rfl, zeroD_A]
      rfl
  have hkL : k < L.length := by omega
  have hm : min k L.length = k := by omega
  rw [hm] at *
  refine S_ ?_
  refine VC.draw (mkP [(0, 0), (1, 1), (2, 3), (3, 7), (4, 15), (5, 31), (6, 1), (7, 65), (8, 255)]) [9] (by rfl) (by kernel_rfl) (by rfl) (by rfl) ?_
  refine D_ ?_
  refine SQ_ ?_
  refine Seq.conv (s' := ⟨[(2, .ptr 1 []), (0, .ptr 0 [])], [(1, zA), (0, .pair (digsV L) (.pair (cntA (k + 1) (k + 1)) .nul))], [], 2⟩) (by
    refine Sim.less [] (by rfl) ?_ ?_ <;> (repeat' (first | exact EnvLe.nil | exact HeapLe.nil | with_reducible apply EnvLe.cons | with_reducible apply HeapLe.cons | (with_reducible refine RelA.int ?_; first | (refine Keep.mk ?_; first | with_reducible rfl | omega | decide) | skip) | exact rfl | exact ⟨rfl, rfl⟩ | (with_reducible refine RelA.rsl ?_; intro i hi) | (with_reducible refine RelA.arr ?_; intro i hi) | with_reducible refine RelA.pair ?_ ?_ | with_reducible refine RelA.rptr ?_ | (with_reducible refine RelA.rslw ?_; intro i hi) | (refine RelA.rsl ?_; intro i hi) | (refine RelA.rslw ?_; intro i hi) | (refine RelA.arr ?_; intro i hi) | refine RelA.pair ?_ ?_ | refine RelA.tup ?_ | ((first | refine RelA.rslL (by first | rfl | ((try simp only [List.length_take, List.length_drop, List.length_append, List.length_cons, List.length_nil, List.length_map, List.length_range]); omega)) ?_ | refine RelA.rslT (by first | rfl | ((try simp only [List.length_take, List.length_drop, List.length_append, List.length_cons, List.length_nil, List.length_map, List.length_range]); omega)) ?_ | refine RelA.arrL (by first | rfl | ((try simp only [List.length_take, List.length_drop, List.length_append, List.length_cons, List.length_nil, List.length_map, List.length_range]); omega)) ?_); intro i hi; (try simp only [List.length_take, List.length_drop] at hi); (try simp (disch := omega) only [getD_take, getD_drop, Nat.zero_add, Int.toNat_natCast])) | exact RelA.bif_int | refine RelA.fn ?_ ?_)) <;> (try with_reducible refine Keep.mk ?_)
    rcases (by omega : i = 0 ∨ i = 1) with rfl | rfl
    · exact rfl
    · exact rfl) ?_
  refine S_ ?_
  refine VC.draw (mkP [(0, 0), (1, 1), (2, 3), (3, 7), (4, 0), (5, 16), (6, 48), (7, 112), (8, 240), (9, 496), (10, 1023), (11, 2047)]) [12] (by rfl) (by kernel_rfl) (by rfl) (by rfl) ?_
  refine D_ ?_
  have e1 : (((k + 1 : Nat) : Int) - 1) = ((k : Nat) : Int) := by omega
  have e2 : L.getD k zeroD = L.getD k [] := by rw [List.getD_eq_getElem?_getD, List.getD_eq_getElem?_getD, List.getElem?_eq_getElem hkL]; rfl
  rw [e1, e2]
  refine S_ ?_
  refine retQ_ok (by rfl) [(0, takerA L (k + 1))] (subL_ok ⟨?_, trivial⟩) ⟨rfl, rfl⟩
  rw [show takerA L (k + 1) = .pair (digsV L) (.pair (cntA (k + 1) (k + 1)) .nul) by unfold takerA; rw [show min (k + 1) L.length = k + 1 by omega]]
  rfl
/-- What Check asks of the walk: the closure over the proof, the end, the taker, the leaves. -/
def proofV (n p : Int) (L : List (List UInt8)) : AV := .pair (.int .i64 n) (.pair (.int .i64 p) (.pair (digsV L) .nul))
def argsC (n : Int) (p q : Nat) (L leaves : List (List UInt8)) (a b : Nat) : AV := .pair (.int .i64 (a : Nat)) (.pair (.int .i64 (b : Nat)) (.pair (.rptr false (proofV n p L)) (.pair (.rptr false (.int .i64 (q : Nat))) (.pair (.rptr false (.ptr 0 [])) (.pair (.rptr false (strs leaves)) .nul)))))
set_option maxRecDepth 10000 in
theorem stopCheck_out (n0 : Int) (p q : Nat) (L leaves : List (List UInt8)) (hL : DOk L) (a n k : Nat) (hk : k ≤ 1099511627776) (h : a + n ≤ p ∨ q ≤ a) :
    Ok Tryd.prog 41 gK [(0, takerA L k)] (argsC n0 p q L leaves a (a + n)) (fun r h' => r = tA (digA (L.getD k zeroD)) true ∧ h' = [(0, takerA L (k + 1))]) := by
  have c1 := take_ok L hL k hk
  refine Ok.of_vc tt_ok Tryd.func41 rfl rfl (by show 6 ≤ _; decide) 1 (hlt_ok (by rfl)) fun c0 => ?_
  refine S_ ?_
  refine Seq.join (X := Unit) (fun _ => ⟨[(10, .bool true), (9, .bool false), (8, .ptr 1 []), (4, .rptr false (.ptr 0 []))], [(1, zA), (0, takerA L k)], gK, 2⟩) (fun _ => True) ?_ fun _ _ => ?_
  · by_cases h1 : ((a + n : Nat) : Int) ≤ (p : Int)
    · refine Seq.same 15 (u' := .bool true) (by rfl) (congrArg AV.bool (decide_eq_true h1)) ?_
      refine S_ ?_
      refine ⟨(), trivial, ?_⟩
      refine Sim.less [] (by rfl) ?_ ?_ <;> (repeat' (first | exact EnvLe.nil | exact HeapLe.nil | with_reducible apply EnvLe.cons | with_reducible apply HeapLe.cons | (with_reducible refine RelA.int ?_; first | (refine Keep.mk ?_; first | with_reducible rfl | omega | decide) | skip) | exact rfl | exact ⟨rfl, rfl⟩ | (with_reducible refine RelA.rsl ?_; intro i hi) | (with_reducible refine RelA.arr ?_; intro i hi) | with_reducible refine RelA.pair ?_ ?_ | with_reducible refine RelA.rptr ?_ | (with_reducible refine RelA.rslw ?_; intro i hi) | (refine RelA.rsl ?_; intro i hi) | (refine RelA.rslw ?_; intro i hi) | (refine RelA.arr ?_; intro i hi) | refine RelA.pair ?_ ?_ | refine RelA.tup ?_ | ((first | refine RelA.rslL (by first | rfl | ((try simp only [List.length_take, List.length_drop, List.length_append, List.length_cons, List.length_nil, List.length_map, List.length_range]); omega)) ?_ | refine RelA.rslT (by first | rfl | ((try simp only [List.length_take, List.length_drop, List.length_append, List.length_cons, List.length_nil, List.length_map, List.length_range]); omega)) ?_ | refine RelA.arrL (by first | rfl | ((try simp only [List.length_take, List.length_drop, List.length_append, List.length_cons, List.length_nil, List.length_map, List.length_range]); omega)) ?_); intro i hi; (try simp only [List.length_take, List.length_drop] at hi); (try simp (disch := omega) only [getD_take, getD_drop, Nat.zero_add, Int.toNat_natCast])) | exact RelA.bif_int | refine RelA.fn ?_ ?_)) <;> (try with_reducible refine Keep.mk ?_)
    · refine Seq.same 15 (u' := .bool false) (by rfl) (congrArg AV.bool (decide_eq_false h1)) ?_
      refine S_ ?_
      refine ⟨(), trivial, ?_⟩
      rw [decide_eq_true (show (q : Int) ≤ (a : Int) by omega)]
      refine Sim.less [] (by rfl) ?_ ?_ <;> (repeat' (first | exact EnvLe.nil | exact HeapLe.nil | with_reducible apply EnvLe.cons | with_reducible apply HeapLe.cons | (with_reducible refine RelA.int ?_; first | (refine Keep.mk ?_; first | with_reducible rfl | omega | decide) | skip) | exact rfl | exact ⟨rfl, rfl⟩ | (with_reducible refine RelA.rsl ?_; intro i hi) | (with_reducible refine RelA.arr ?_; intro i hi) | with_reducible refine RelA.pair ?_ ?_ | with_reducible refine RelA.rptr ?_ | (with_reducible refine RelA.rslw ?_; intro i hi) | (refine RelA.rsl ?_; intro i hi) | (refine RelA.rslw ?_; intro i hi) | (refine RelA.arr ?_; intro i hi) | refine RelA.pair ?_ ?_ | refine RelA.tup ?_ | ((first | refine RelA.rslL (by first | rfl | ((try simp only [List.length_take, List.length_drop, List.length_append, List.length_cons, List.length_nil, List.length_map, List.length_range]); omega)) ?_ | refine RelA.rslT (by first | rfl | ((try simp only [List.length_take, List.length_drop, List.length_append, List.length_cons, List.length_nil, List.length_map, List.length_range]); omega)) ?_ | refine RelA.arrL (by first | rfl | ((try simp only [List.length_take, List.length_drop, List.length_append, List.length_cons, List.length_nil, List.length_map, List.length_range]); omega)) ?_); intro i hi; (try simp only [List.length_take, List.length_drop] at hi); (try simp (disch := omega) only [getD_take, getD_drop, Nat.zero_add, Int.toNat_natCast])) | exact RelA.bif_int | refine RelA.fn ?_ ?_)) <;> (try with_reducible refine Keep.mk ?_)
  refine S_ ?_
  refine VC.cond (by rfl) (fun hb => ?_) (fun hb => ?_) <;> (try simp only [decide_eq_true_eq, decide_eq_false_iff_not, Bool.not_eq_true', Bool.not_eq_false'] at hb) <;> (try (exfalso; omega)) <;> (try (cases hb; done))
  refine S_ ?_
  refine Seq.callo false [] [] (digA (L.getD k zeroD)) ([(0, takerA L (k + 1))]) 2 (c1) Tryd.func42 gK_ok subG.nil (by rfl) (by rfl) rfl rfl rfl rfl rfl (by rfl) rfl (by rfl) (by rfl) (by rfl) (by rfl) VW_ NI_ R_ (noFrL_ok NI_) BK_ ?_
  refine S_ ?_
  exact retQ_ok (by rfl) [(0, takerA L (k + 1))] (subL_ok ⟨rfl, trivial⟩) ⟨rfl, rfl⟩
set_option maxRecDepth 10000 in
theorem stopCheck_one (n0 : Int) (p q : Nat) (L leaves : List (List UInt8)) (hl : LOk leaves) (a k : Nat) (h : ¬ (a + 1 ≤ p ∨ q ≤ a)) (hq : q - p = leaves.length) :
    Ok Tryd.prog 41 gK [(0, takerA L k)] (argsC n0 p q L leaves a (a + 1)) (fun r h' => r = tA (digA (leafD (leaves.getD (a - p) []))) true ∧ h' = [(0, takerA L k)]) := by
  have hl1 := hl.1
  have e1 : ((a : Int) - (p : Int)) = ((a - p : Nat) : Int) := by omega
  refine Ok.of_vc tt_ok Tryd.func41 rfl rfl (by show 6 ≤ _; decide) 1 (hlt_ok (by rfl)) fun c0 => ?_
  refine S_ ?_
  refine Seq.same 15 (u' := .bool false) (by rfl) (congrArg AV.bool (decide_eq_false (by omega))) ?_
  refine S_ ?_
  refine VC.cond (by rfl) (fun hb => ?_) (fun hb => ?_) <;> (try simp only [decide_eq_true_eq, decide_eq_false_iff_not, Bool.not_eq_true', Bool.not_eq_false'] at hb) <;> (try (exfalso; omega))
  refine S_ ?_
  refine VC.cond (by rfl) (fun hb => ?_) (fun hb => ?_) <;> (try simp only [decide_eq_true_eq, decide_eq_false_iff_not, Bool.not_eq_true', Bool.not_eq_false'] at hb) <;> (try (exfalso; omega))
  refine S_ ?_
  rw [e1]
  refine S_ ?_
  refine Seq.callp false (leaf_ok (leaves.getD (a - p) []) (hl.get _)) Tryd.func43 gK_ok subG.refl (by rfl) (by rfl) rfl rfl rfl rfl rfl (by rfl) rfl VW_ NI_ NI_ FR_ ?_
  refine S_ ?_
  exact retQ_ok (by rfl) [(0, takerA L k)] (subL_ok ⟨rfl, trivial⟩) ⟨rfl, rfl⟩
end Go.Proofs.YtbphmbmdkojbnaaDoor
