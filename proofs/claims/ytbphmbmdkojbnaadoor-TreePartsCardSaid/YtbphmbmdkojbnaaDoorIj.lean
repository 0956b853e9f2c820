
/- dioramaref02: Mac, Input, Of. -/
import Derived.Test.YtbphmbmdkojbnaaDoorIi
set_option linter.unusedSimpArgs false
set_option linter.unusedVariables false
namespace Go.Proofs.YtbphmbmdkojbnaaDoor
open Go.V Go.RowKit Go.U Go.L
theorem relA_u8 {D : Nat → Prop} {σ : Nat → Nat} {n m : Nat} {l : List UInt8} {f : Nat → AV} (h1 : m = n) (h2 : ∀ i, i < n → f i = .int .u8 ((l.getD i 0).toNat : Nat)) : RelA D σ (u8A n l) (.arr m 1 f) := by
  subst h1
  exact ⟨f, rfl, h2⟩
set_option maxRecDepth 10000 in
theorem input_ok (t : Int) (ps : List (List UInt8)) (ht : -9223372036854775808 ≤ t ∧ t ≤ 9223372036854775807) (hl : ps.length ≤ 1000000000) (hps : (partsB ps).length ≤ 1000000000000) : Ok Tryd.prog 57 [] [] (.pair (.int .i64 t) (.pair (strs ps) .nul)) (fun r h' => r = .sl 0 [] 1 0 (inputB t ps).length ∧ h' = [(0, u8A (inputB t ps).length (inputB t ps))]) := by
  refine Ok.of_vc tt_ok Tryd.func57 rfl rfl (by show 2 ≤ _; decide) 0 (fun i av h => by cases h) fun c0 => ?_
  refine S_ ?_
  refine VC.loop (fun k => ⟨[(6, .int .i64 (k : Nat)), (5, .sl 0 [] 1 0 (inputB t (ps.take k)).length), (1, strs ps)], [(0, u8A (inputB t (ps.take k)).length (inputB t (ps.take k)))], [], 1⟩) (fun k => k ≤ ps.length) (fun k => ps.length - k) 0 (by omega) ?_ fun k hk => ?_
  · refine Sim.less [] (by rfl) ?_ ?_ <;> (repeat' (first | with_reducible refine relA_strs ?_ | first | exact EnvLe.nil | exact HeapLe.nil | with_reducible apply EnvLe.cons | with_reducible apply HeapLe.cons | (with_reducible refine RelA.int ?_; first | (refine Keep.mk ?_; first | with_reducible rfl | omega | decide) | skip) | exact rfl | exact ⟨rfl, rfl⟩ | (with_reducible refine RelA.rsl ?_; intro i hi) | (with_reducible refine RelA.arr ?_; intro i hi) | with_reducible refine RelA.pair ?_ ?_ | with_reducible refine RelA.rptr ?_ | (with_reducible refine RelA.rslw ?_; intro i hi) | (refine RelA.rsl ?_; intro i hi) | (refine RelA.rslw ?_; intro i hi) | (refine RelA.arr ?_; intro i hi) | refine RelA.pair ?_ ?_ | refine RelA.tup ?_ | exact RelA.bif_int | refine RelA.fn ?_ ?_)) <;> (try with_reducible refine Keep.mk ?_)
    have h : (inputB t (ps.take 0)).length = 1 := rfl
    obtain rfl : i = 0 := by omega
    exact congrArg (AV.int .u8) (tagB_wrap t)
  refine S_ ?_
  refine VC.cond (by rfl) (fun hb => ?_) (fun hb => ?_) <;> (try simp only [decide_eq_true_eq, decide_eq_false_iff_not, Bool.not_eq_true', Bool.not_eq_false'] at hb) <;> (try (exfalso; omega))
  · refine S_ ?_
    have hkl : k < ps.length := by omega
    have hw := partsB_take_le ps k
    have hw2 := partsB_take ps k hkl
    have hw3 := partsB_take_le ps (k + 1)
    rw [hw2, List.length_append] at hw3
    have hw4 : (ps.getD k []).length ≤ (Wire.bytes (ps.getD k [])).length := by simp [Wire.bytes]
    have hin : inputB t (ps.take (k + 1)) = inputB t (ps.take k) ++ Wire.bytes (ps.getD k []) := by unfold inputB; rw [hw2]; rfl
    have hil : (inputB t (ps.take k)).length = (partsB (ps.take k)).length + 1 := rfl
    refine Seq.callp true (refBytes_ok (ps.getD k []) (by omega)) Tryd.func63 GOk.nil subG.nil (by rfl) (by rfl) rfl rfl rfl rfl rfl (by rfl) rfl ?_ ?_ (fun i hi => trivial) (fun _ => ⟨rfl, fun i hi => trivial⟩) ?_
    · repeat' (first | exact View.rel ⟨rfl, rfl⟩ | (refine View.sln (by rfl) (by rfl) (by (first | exact trivial | exact u8_in _ rfl | exact u32_in _ rfl | ((with_reducible refine AllP.guard ?_); simp only [AllP, inI, fitV, maxK, inK, inbL, inb, List.append, List.cons_append, List.nil_append, true_and, and_true]; first | done | omega))) ?_ ⟨rfl, rfl⟩ ?_ ?_) | exact View.nil | exact View.emp | refine View.pair ?_ ?_ | refine View.fn ?_ ?_ | refine View.ptr (by rfl) (by rfl) (by (first | exact trivial | exact u8_in _ rfl | exact u32_in _ rfl | ((with_reducible refine AllP.guard ?_); simp only [AllP, inI, fitV, maxK, inK, inbL, inb, List.append, List.cons_append, List.nil_append, true_and, and_true]; first | done | omega))) ⟨rfl, rfl⟩ ?_ | exact View.rel (NoId.self (by first | ((repeat' (first | exact trivial | exact rfl | refine NoFr.bif ?_ ?_ | refine NoId.bif ?_ ?_ | refine AllFr.bif ?_ ?_ | (intro i hi) | (refine ⟨?_, ?_⟩) | (intro e; cases e; done))); done) | fail)) | (exact NoId.self (by first | ((repeat' (first | exact trivial | exact rfl | refine NoFr.bif ?_ ?_ | refine NoId.bif ?_ ?_ | refine AllFr.bif ?_ ?_ | (intro i hi) | (refine ⟨?_, ?_⟩) | (intro e; cases e; done))); done) | fail)) | exact ⟨rfl, rfl⟩ | (refine View.rel ?_; repeat' (first | exact EnvLe.nil | exact HeapLe.nil | with_reducible apply EnvLe.cons | with_reducible apply HeapLe.cons | (with_reducible refine RelA.int ?_; first | (refine Keep.mk ?_; first | with_reducible rfl | omega | decide) | skip) | exact rfl | exact ⟨rfl, rfl⟩ | (with_reducible refine RelA.rsl ?_; intro i hi) | (with_reducible refine RelA.arr ?_; intro i hi) | with_reducible refine RelA.pair ?_ ?_ | with_reducible refine RelA.rptr ?_ | (with_reducible refine RelA.rslw ?_; intro i hi) | (refine RelA.rsl ?_; intro i hi) | (refine RelA.rslw ?_; intro i hi) | (refine RelA.arr ?_; intro i hi) | refine RelA.pair ?_ ?_ | refine RelA.tup ?_ | exact RelA.bif_int | refine RelA.fn ?_ ?_)) <;> (try with_reducible refine Keep.mk ?_))
    · repeat' (first | exact trivial | exact rfl | refine NoFr.bif ?_ ?_ | refine NoId.bif ?_ ?_ | refine AllFr.bif ?_ ?_ | (intro i hi) | (refine ⟨?_, ?_⟩) | (intro e; cases e; done))
    refine S_ ?_
    refine ⟨k + 1, by omega, by omega, ?_⟩
    rw [hin, List.length_append]
    refine Sim.less [(0, 1)] (by rfl) ?_ ?_ <;> (repeat' (first | exact EnvLe.nil | exact HeapLe.nil | with_reducible apply EnvLe.cons | with_reducible apply HeapLe.cons | (with_reducible refine RelA.int ?_; first | (refine Keep.mk ?_; first | with_reducible rfl | omega | decide) | skip) | exact rfl | exact ⟨rfl, rfl⟩ | (with_reducible refine RelA.rsl ?_; intro i hi) | (with_reducible refine RelA.arr ?_; intro i hi) | with_reducible refine RelA.pair ?_ ?_ | with_reducible refine RelA.rptr ?_ | (with_reducible refine RelA.rslw ?_; intro i hi) | (refine RelA.rsl ?_; intro i hi) | (refine RelA.rslw ?_; intro i hi) | (refine RelA.arr ?_; intro i hi) | refine RelA.pair ?_ ?_ | refine RelA.tup ?_ | exact RelA.bif_int | refine RelA.fn ?_ ?_)) <;> (try with_reducible refine Keep.mk ?_)
    exact joinF_app rfl
  · refine S_ ?_
    have hkl : ps.take k = ps := List.take_of_length_le (by omega)
    rw [hkl]
    exact retQ_ok (by rfl) [(0, u8A (inputB t ps).length (inputB t ps))] (fun _ _ h => h) ⟨rfl, rfl⟩
set_option maxRecDepth 10000 in
theorem refOf_ok (t : Int) (ps : List (List UInt8)) (ht : -9223372036854775808 ≤ t ∧ t ≤ 9223372036854775807) (hl : ps.length ≤ 1000000000) (hps : (partsB ps).length ≤ 100000000000) : Ok Tryd.prog 28 gR [] (.pair (.int .i64 t) (.pair (strs ps) .nul)) (fun r h' => r = u8A 16 ((Sha.sum (inputB t ps)).take 16) ∧ h' = []) := by
  refine Ok.of_vc tt_ok Tryd.func28 rfl rfl (by show 2 ≤ _; decide) 0 (fun i av h => by cases h) fun c0 => ?_
  have hil : (inputB t ps).length = (partsB ps).length + 1 := rfl
  refine S_ ?_
  refine Seq.calln true (input_ok t ps ht hl (by omega)) Tryd.func57 gR_ok subG.nil (by rfl) (by rfl) rfl rfl rfl rfl rfl (by rfl) rfl ?_ ?_ (fun i hi => trivial) (fun _ => fun i hi => trivial) ?_
  · repeat' (first | exact View.rel ⟨rfl, rfl⟩ | (refine View.sln (by rfl) (by rfl) (by (first | exact trivial | exact u8_in _ rfl | exact u32_in _ rfl | ((with_reducible refine AllP.guard ?_); simp only [AllP, inI, fitV, maxK, inK, inbL, inb, List.append, List.cons_append, List.nil_append, true_and, and_true]; first | done | omega))) ?_ ⟨rfl, rfl⟩ ?_ ?_) | exact View.nil | exact View.emp | refine View.pair ?_ ?_ | refine View.fn ?_ ?_ | refine View.ptr (by rfl) (by rfl) (by (first | exact trivial | exact u8_in _ rfl | exact u32_in _ rfl | ((with_reducible refine AllP.guard ?_); simp only [AllP, inI, fitV, maxK, inK, inbL, inb, List.append, List.cons_append, List.nil_append, true_and, and_true]; first | done | omega))) ⟨rfl, rfl⟩ ?_ | exact View.rel (NoId.self (by first | ((repeat' (first | exact trivial | exact rfl | refine NoFr.bif ?_ ?_ | refine NoId.bif ?_ ?_ | refine AllFr.bif ?_ ?_ | (intro i hi) | (refine ⟨?_, ?_⟩) | (intro e; cases e; done))); done) | fail)) | (exact NoId.self (by first | ((repeat' (first | exact trivial | exact rfl | refine NoFr.bif ?_ ?_ | refine NoId.bif ?_ ?_ | refine AllFr.bif ?_ ?_ | (intro i hi) | (refine ⟨?_, ?_⟩) | (intro e; cases e; done))); done) | fail)) | exact ⟨rfl, rfl⟩ | (refine View.rel ?_; repeat' (first | exact EnvLe.nil | exact HeapLe.nil | with_reducible apply EnvLe.cons | with_reducible apply HeapLe.cons | (with_reducible refine RelA.int ?_; first | (refine Keep.mk ?_; first | with_reducible rfl | omega | decide) | skip) | exact rfl | exact ⟨rfl, rfl⟩ | (with_reducible refine RelA.rsl ?_; intro i hi) | (with_reducible refine RelA.arr ?_; intro i hi) | with_reducible refine RelA.pair ?_ ?_ | with_reducible refine RelA.rptr ?_ | (with_reducible refine RelA.rslw ?_; intro i hi) | (refine RelA.rsl ?_; intro i hi) | (refine RelA.rslw ?_; intro i hi) | (refine RelA.arr ?_; intro i hi) | refine RelA.pair ?_ ?_ | refine RelA.tup ?_ | exact RelA.bif_int | refine RelA.fn ?_ ?_)) <;> (try with_reducible refine Keep.mk ?_))
  · repeat' (first | exact trivial | exact rfl | refine NoFr.bif ?_ ?_ | refine NoId.bif ?_ ?_ | refine AllFr.bif ?_ ?_ | (intro i hi) | (refine ⟨?_, ?_⟩) | (intro e; cases e; done))
  refine S_ ?_
  generalize inputB t ps = m at *
  refine Seq.callp true (short_ok m (by omega)) Tryd.func56 gR_ok subG.refl (by rfl) (by rfl) rfl rfl rfl rfl rfl (by rfl) rfl ?_ ?_ (fun i hi => trivial) (fun _ => fun i hi => trivial) ?_
  · repeat' (first | exact View.rel ⟨rfl, rfl⟩ | (refine View.sln (by rfl) (by rfl) (by (first | exact trivial | exact u8_in _ rfl | exact u32_in _ rfl | ((with_reducible refine AllP.guard ?_); simp only [AllP, inI, fitV, maxK, inK, inbL, inb, List.append, List.cons_append, List.nil_append, true_and, and_true]; first | done | omega))) ?_ ⟨rfl, rfl⟩ ?_ ?_) | exact View.nil | exact View.emp | refine View.pair ?_ ?_ | refine View.fn ?_ ?_ | refine View.ptr (by rfl) (by rfl) (by (first | exact trivial | exact u8_in _ rfl | exact u32_in _ rfl | ((with_reducible refine AllP.guard ?_); simp only [AllP, inI, fitV, maxK, inK, inbL, inb, List.append, List.cons_append, List.nil_append, true_and, and_true]; first | done | omega))) ⟨rfl, rfl⟩ ?_ | exact View.rel (NoId.self (by first | ((repeat' (first | exact trivial | exact rfl | refine NoFr.bif ?_ ?_ | refine NoId.bif ?_ ?_ | refine AllFr.bif ?_ ?_ | (intro i hi) | (refine ⟨?_, ?_⟩) | (intro e; cases e; done))); done) | fail)) | (exact NoId.self (by first | ((repeat' (first | exact trivial | exact rfl | refine NoFr.bif ?_ ?_ | refine NoId.bif ?_ ?_ | refine AllFr.bif ?_ ?_ | (intro i hi) | (refine ⟨?_, ?_⟩) | (intro e; cases e; done))); done) | fail)) | exact ⟨rfl, rfl⟩ | (refine View.rel ?_; repeat' (first | exact EnvLe.nil | exact HeapLe.nil | with_reducible apply EnvLe.cons | with_reducible apply HeapLe.cons | (with_reducible refine RelA.int ?_; first | (refine Keep.mk ?_; first | with_reducible rfl | omega | decide) | skip) | exact rfl | exact ⟨rfl, rfl⟩ | (with_reducible refine RelA.rsl ?_; intro i hi) | (with_reducible refine RelA.arr ?_; intro i hi) | with_reducible refine RelA.pair ?_ ?_ | with_reducible refine RelA.rptr ?_ | (with_reducible refine RelA.rslw ?_; intro i hi) | (refine RelA.rsl ?_; intro i hi) | (refine RelA.rslw ?_; intro i hi) | (refine RelA.arr ?_; intro i hi) | refine RelA.pair ?_ ?_ | refine RelA.tup ?_ | exact RelA.bif_int | refine RelA.fn ?_ ?_)) <;> (try with_reducible refine Keep.mk ?_))
    · omega
    · rfl
    · intro i hi
      rw [Nat.zero_add]; exact rfl
  · repeat' (first | exact trivial | exact rfl | refine NoFr.bif ?_ ?_ | refine NoId.bif ?_ ?_ | refine AllFr.bif ?_ ?_ | (intro i hi) | (refine ⟨?_, ?_⟩) | (intro e; cases e; done))
  refine S_ ?_
  exact retQ_ok (by rfl) [] nil_sub ⟨rfl, rfl⟩
end Go.Proofs.YtbphmbmdkojbnaaDoor
