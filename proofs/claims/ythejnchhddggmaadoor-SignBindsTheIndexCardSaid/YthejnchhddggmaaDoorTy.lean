
/- The types of this translation, by their numbers, for the walks over abstract states (made by a program off the translation). -/
import Derived.Test.YthejnchhddggmaaDoorFe
import Derived.Test.YthejnchhddggmaaDoorChecked
import Derived.KernelRfl
set_option linter.unusedSimpArgs false
set_option linter.unusedVariables false
namespace Go.Proofs.YthejnchhddggmaaDoor
open Go.V
def TT : List (Option TI) := [
  none,
  some ⟨.one .nilFunc, 8, .func⟩,
  some ⟨.one (.int .i64 0), 8, .int .i64⟩,
  some ⟨.one (.int .i64 0), 8, .int .i64⟩,
  some ⟨.one (.bool false), 1, .bool⟩,
  some ⟨.one (.int .u8 0), 1, .int .u8⟩,
  some ⟨.one (.int .u8 0), 1, .int .u8⟩,
  some ⟨.cons (.one (.int .i64 0)) (.cons (.one (.int .i64 0)) (.cons (.one (.bool false)) (.cons (.one (.int .u8 0)) (.nul)))), 24, .struct [(0, 2), (1, 3), (2, 4), (3, 6)]⟩,
  some ⟨.cons (.one (.int .i64 0)) (.cons (.one (.int .i64 0)) (.cons (.one (.bool false)) (.cons (.one (.int .u8 0)) (.nul)))), 24, .struct [(0, 2), (1, 3), (2, 4), (3, 6)]⟩,
  some ⟨.one (.string ⟨#[]⟩), 16, .str⟩,
  some ⟨.one (.string ⟨#[]⟩), 16, .str⟩,
  some ⟨.one (.string ⟨#[]⟩), 16, .str⟩,
  some ⟨.one (.int .u64 0), 8, .int .u64⟩,
  some ⟨.cons (.one (.string ⟨#[]⟩)) (.cons (.one (.int .u64 0)) (.nul)), 24, .struct [(0, 9), (1, 12)]⟩,
  some ⟨.cons (.one (.string ⟨#[]⟩)) (.cons (.one (.int .u64 0)) (.nul)), 24, .struct [(0, 9), (1, 12)]⟩,
  some ⟨.one (.pointer none), 8, .ptr 110⟩,
  some ⟨.one (.pointer none), 8, .ptr 113⟩,
  some ⟨.one (.pointer none), 8, .ptr 121⟩,
  some ⟨.cons (.one (.pointer none)) (.nul), 8, .struct [(0, 17)]⟩,
  some ⟨.cons (.one (.pointer none)) (.nul), 8, .struct [(0, 17)]⟩,
  some ⟨.one .nilIface, 16, .iface⟩,
  some ⟨.one (.int .i32 0), 4, .int .i32⟩,
  some ⟨.arr 16 (.one (.int .u8 0)), 16, .array 16 5⟩,
  some ⟨.arr 16 (.one (.int .u8 0)), 16, .array 16 5⟩,
  some ⟨.one .nilFunc, 8, .func⟩,
  some ⟨.one (.slice none 0 0), 24, .slice 3⟩,
  some ⟨.one .nilFunc, 8, .func⟩,
  some ⟨.one .nilFunc, 8, .func⟩,
  some ⟨.arr 2 (.one (.int .i64 0)), 16, .array 2 3⟩,
  some ⟨.one (.int .i64 0), 8, .int .i64⟩,
  none,
  some ⟨.one .nilFunc, 8, .func⟩,
  none,
  some ⟨.one .nilFunc, 8, .func⟩,
  some ⟨.one .nilFunc, 8, .func⟩,
  some ⟨.one .nilFunc, 8, .func⟩,
  none,
  some ⟨.one .nilFunc, 8, .func⟩,
  some ⟨.one .nilFunc, 8, .func⟩,
  some ⟨.one .nilFunc, 8, .func⟩,
  some ⟨.one .nilFunc, 8, .func⟩,
  some ⟨.one .nilFunc, 8, .func⟩,
  some ⟨.one .nilFunc, 8, .func⟩,
  some ⟨.arr 68 (.one (.int .i64 0)), 544, .array 68 3⟩,
  some ⟨.one .nilFunc, 8, .func⟩,
  some ⟨.one .nilFunc, 8, .func⟩,
  some ⟨.one .nilFunc, 8, .func⟩,
  some ⟨.one .nilFunc, 8, .func⟩,
  some ⟨.one (.slice none 0 0), 24, .slice 23⟩,
  some ⟨.one (.slice none 0 0), 24, .slice 48⟩,
  some ⟨.one .nilFunc, 8, .func⟩,
  some ⟨.one (.pointer none), 8, .ptr 54⟩,
  some ⟨.one (.slice none 0 0), 24, .slice 5⟩,
  some ⟨.cons (.one (.pointer none)) (.cons (.one (.slice none 0 0)) (.nul)), 32, .struct [(0, 51), (1, 52)]⟩,
  some ⟨.cons (.one (.pointer none)) (.cons (.one (.slice none 0 0)) (.nul)), 32, .struct [(0, 51), (1, 52)]⟩,
  some ⟨.one .nilIface, 16, .iface⟩,
  some ⟨.one .nilIface, 16, .iface⟩,
  none,
  some ⟨.one .nilFunc, 8, .func⟩,
  some ⟨.one .nilFunc, 8, .func⟩,
  some ⟨.one .nilFunc, 8, .func⟩,
  some ⟨.one .nilFunc, 8, .func⟩,
  some ⟨.one .nilFunc, 8, .func⟩,
  some ⟨.one .nilFunc, 8, .func⟩,
  some ⟨.one .nilFunc, 8, .func⟩,
  some ⟨.one .nilFunc, 8, .func⟩,
  some ⟨.one (.slice none 0 0), 24, .slice 9⟩,
  none,
  some ⟨.one .nilFunc, 8, .func⟩,
  some ⟨.one .nilFunc, 8, .func⟩,
  some ⟨.one .nilFunc, 8, .func⟩,
  some ⟨.one .nilFunc, 8, .func⟩,
  some ⟨.one .nilFunc, 8, .func⟩,
  some ⟨.one (.map none), 8, .map 28 23⟩,
  none,
  some ⟨.one .nilFunc, 8, .func⟩,
  some ⟨.one (.int .u64 0), 8, .int .u64⟩,
  some ⟨.one .nilFunc, 8, .func⟩,
  some ⟨.one .nilFunc, 8, .func⟩,
  some ⟨.one (.pointer none), 8, .ptr 5⟩,
  some ⟨.one .nilFunc, 8, .func⟩,
  some ⟨.one (.int .u32 0), 4, .int .u32⟩,
  some ⟨.arr 8 (.one (.int .u32 0)), 32, .array 8 81⟩,
  some ⟨.arr 64 (.one (.int .u8 0)), 64, .array 64 5⟩,
  some ⟨.cons (.arr 8 (.one (.int .u32 0))) (.cons (.arr 64 (.one (.int .u8 0))) (.cons (.one (.int .u64 0)) (.nul))), 104, .struct [(0, 82), (8, 83), (72, 76)]⟩,
  some ⟨.cons (.arr 8 (.one (.int .u32 0))) (.cons (.arr 64 (.one (.int .u8 0))) (.cons (.one (.int .u64 0)) (.nul))), 104, .struct [(0, 82), (8, 83), (72, 76)]⟩,
  some ⟨.one .nilFunc, 8, .func⟩,
  some ⟨.one .nilFunc, 8, .func⟩,
  some ⟨.one .nilFunc, 8, .func⟩,
  some ⟨.arr 32 (.one (.int .u8 0)), 32, .array 32 5⟩,
  some ⟨.one .nilFunc, 8, .func⟩,
  some ⟨.one .nilFunc, 8, .func⟩,
  some ⟨.one .nilFunc, 8, .func⟩,
  some ⟨.one (.int .u64 0), 8, .int .u64⟩,
  some ⟨.one .nilFunc, 8, .func⟩,
  none,
  some ⟨.one .nilFunc, 8, .func⟩,
  some ⟨.one .nilFunc, 8, .func⟩,
  some ⟨.one .nilFunc, 8, .func⟩,
  some ⟨.one .nilFunc, 8, .func⟩,
  some ⟨.one .nilFunc, 8, .func⟩,
  some ⟨.one .nilFunc, 8, .func⟩,
  some ⟨.one .nilFunc, 8, .func⟩,
  some ⟨.arr 64 (.one (.int .u32 0)), 256, .array 64 81⟩,
  some ⟨.one .nilFunc, 8, .func⟩,
  some ⟨.one .nilFunc, 8, .func⟩,
  some ⟨.arr 4 (.one (.int .u32 0)), 16, .array 4 81⟩,
  some ⟨.one (.slice none 0 0), 24, .slice 81⟩,
  some ⟨.one .nilFunc, 8, .func⟩,
  some ⟨.cons (.one (.pointer none)) (.cons (.one (.pointer none)) (.cons (.one (.pointer none)) (.cons (.one (.string ⟨#[]⟩)) (.nul)))), 40, .struct [(0, 17), (1, 17), (2, 17), (3, 9)]⟩,
  some ⟨.cons (.one (.pointer none)) (.cons (.one (.pointer none)) (.cons (.one (.pointer none)) (.cons (.one (.string ⟨#[]⟩)) (.nul)))), 40, .struct [(0, 17), (1, 17), (2, 17), (3, 9)]⟩,
  some ⟨.arr 0 (.one (.pointer none)), 0, .array 0 16⟩,
  none,
  none,
  some ⟨.one .nilFunc, 8, .func⟩,
  some ⟨.one (.int .u8 0), 1, .int .u8⟩,
  some ⟨.one (.int .u8 0), 1, .int .u8⟩,
  some ⟨.one .nilFunc, 8, .func⟩,
  some ⟨.one (.int .i32 0), 4, .int .i32⟩,
  some ⟨.one (.int .i32 0), 4, .int .i32⟩,
  some ⟨.cons (.one (.int .u64 0)) (.cons (.one (.int .u64 0)) (.cons (.one (.int .u32 0)) (.cons (.one (.int .u8 0)) (.cons (.one (.int .u8 0)) (.cons (.one (.int .u8 0)) (.cons (.one (.int .u8 0)) (.cons (.one .nilFunc) (.cons (.one (.pointer none)) (.cons (.one (.int .i32 0)) (.cons (.one (.int .i32 0)) (.nul))))))))))), 48, .struct [(0, 12), (1, 12), (2, 81), (3, 115), (4, 5), (5, 5), (6, 116), (7, 117), (8, 79), (9, 118), (10, 119)]⟩,
  some ⟨.cons (.one (.int .u64 0)) (.cons (.one (.int .u64 0)) (.cons (.one (.int .u32 0)) (.cons (.one (.int .u8 0)) (.cons (.one (.int .u8 0)) (.cons (.one (.int .u8 0)) (.cons (.one (.int .u8 0)) (.cons (.one .nilFunc) (.cons (.one (.pointer none)) (.cons (.one (.int .i32 0)) (.cons (.one (.int .i32 0)) (.nul))))))))))), 48, .struct [(0, 12), (1, 12), (2, 81), (3, 115), (4, 5), (5, 5), (6, 116), (7, 117), (8, 79), (9, 118), (10, 119)]⟩]
theorem tt_ok : TabOk Tryd.prog TT := tab_ok (by kernel_rfl)
theorem cs1_ {i : Nat} (h : i < 1) : i = 0 := by omega
theorem cs2_ {i : Nat} (h : i < 2) : i = 0 ∨ i = 1 := by omega
theorem cs3_ {i : Nat} (h : i < 3) : i = 0 ∨ i = 1 ∨ i = 2 := by omega
theorem cs4_ {i : Nat} (h : i < 4) : i = 0 ∨ i = 1 ∨ i = 2 ∨ i = 3 := by omega
structure Hold_ (Q : Prop) : Prop where
  out : Q
theorem S_ {P Q : Prop} (k : Q) (h : Hold_ Q → P := by intro h; (repeat (first | with_reducible refine VC.seq ?_ | with_reducible refine VC.block ?_ | with_reducible refine VC.region ?_ | with_reducible refine VC.exit ?_ | with_reducible refine VC.ret ?_ | with_reducible refine VC.skip ?_ | with_reducible refine Seq.nil ?_ | with_reducible refine thenQ_n ?_ | with_reducible refine thenQ_r ?_ | with_reducible refine thenQ_e ?_ | with_reducible refine inQ_n ?_ | with_reducible refine inQ_r ?_ | with_reducible refine inQ_e ?_ | ((with_reducible refine inQ_o ?_ ?_); rfl) | (refine Seq.ev0 true tt_ok (by rfl) (by (first | exact trivial | exact u8_in _ rfl | exact u32_in _ rfl | ((with_reducible refine AllP.guard ?_); simp only [AllP, inI, fitV, maxK, inK, inbL, inb, List.append, List.cons_append, List.nil_append, true_and, and_true]; first | done | omega))) rfl rfl rfl ?_) | (refine Seq.ev true tt_ok (by rfl) (by (first | exact trivial | exact u8_in _ rfl | exact u32_in _ rfl | ((with_reducible refine AllP.guard ?_); simp only [AllP, inI, fitV, maxK, inK, inbL, inb, List.append, List.cons_append, List.nil_append, true_and, and_true]; first | done | omega))) rfl rfl rfl ?_) | (refine Seq.evn true tt_ok (by rfl) (by (first | exact trivial | exact u8_in _ rfl | exact u32_in _ rfl | ((with_reducible refine AllP.guard ?_); simp only [AllP, inI, fitV, maxK, inK, inbL, inb, List.append, List.cons_append, List.nil_append, true_and, and_true]; first | done | omega))) rfl ?_) | (refine Seq.pass (by rfl) rfl ?_))); exact h.out) : P := h ⟨k⟩
theorem D_ {P Q : Prop} (k : Q) (h : Hold_ Q → P := by intro h; (repeat (first | (refine DSeq.ev0 true tt_ok (by rfl) (fastE (by rfl)) (fastH (by rfl)) (by rfl) (by (first | exact trivial | exact u8_in _ rfl | exact u32_in _ rfl | ((with_reducible refine AllP.guard ?_); simp only [AllP, inI, fitV, maxK, inK, inbL, inb, List.append, List.cons_append, List.nil_append, true_and, and_true]; first | done | omega))) (by rfl) rfl (by rfl) ?_) | (refine DSeq.ev1 true tt_ok (by rfl) (fastE (by rfl)) (fastH (by rfl)) (by rfl) (by (first | exact trivial | exact u8_in _ rfl | exact u32_in _ rfl | ((with_reducible refine AllP.guard ?_); simp only [AllP, inI, fitV, maxK, inK, inbL, inb, List.append, List.cons_append, List.nil_append, true_and, and_true]; first | done | omega))) (by rfl) rfl (by rfl) ?_) | (refine DSeq.pass (by rfl) (fastE (by rfl)) (by rfl) (by rfl) ?_) | (refine DSeq.nil (Seq.drawn (by rfl) (by rfl) ?_)))); exact h.out) : P := h ⟨k⟩
theorem NI_ {P : Prop} (h : P := by first | ((repeat' (first | exact trivial | exact rfl | refine NoFr.bif ?_ ?_ | refine NoId.bif ?_ ?_ | refine AllFr.bif ?_ ?_ | (intro i hi) | (refine ⟨?_, ?_⟩) | (intro e; cases e; done))); done) | fail) : P := h
theorem VW_ {P : Prop} (h : P := by first | ((repeat' (first | exact View.rel ⟨rfl, rfl⟩ | (refine View.sln (by rfl) (by rfl) (by (first | exact trivial | exact u8_in _ rfl | exact u32_in _ rfl | ((with_reducible refine AllP.guard ?_); simp only [AllP, inI, fitV, maxK, inK, inbL, inb, List.append, List.cons_append, List.nil_append, true_and, and_true]; first | done | omega))) ?_ ⟨rfl, rfl⟩ ?_ ?_) | exact View.nil | exact View.emp | refine View.pair ?_ ?_ | refine View.fn ?_ ?_ | refine View.ptr (by rfl) (by rfl) (by (first | exact trivial | exact u8_in _ rfl | exact u32_in _ rfl | ((with_reducible refine AllP.guard ?_); simp only [AllP, inI, fitV, maxK, inK, inbL, inb, List.append, List.cons_append, List.nil_append, true_and, and_true]; first | done | omega))) (by rfl) ⟨rfl, rfl⟩ ?_ | exact View.rel (NoId.self (by first | ((repeat' (first | exact trivial | exact rfl | refine NoFr.bif ?_ ?_ | refine NoId.bif ?_ ?_ | refine AllFr.bif ?_ ?_ | (intro i hi) | (refine ⟨?_, ?_⟩) | (intro e; cases e; done))); done) | fail)) | (exact NoId.self (by first | ((repeat' (first | exact trivial | exact rfl | refine NoFr.bif ?_ ?_ | refine NoId.bif ?_ ?_ | refine AllFr.bif ?_ ?_ | (intro i hi) | (refine ⟨?_, ?_⟩) | (intro e; cases e; done))); done) | fail)) | exact ⟨rfl, rfl⟩ | (refine View.rel ?_; repeat' (first | exact EnvLe.nil | exact HeapLe.nil | with_reducible apply EnvLe.cons | with_reducible apply HeapLe.cons | (with_reducible refine RelA.int ?_; first | (refine Keep.mk ?_; first | with_reducible rfl | omega | decide) | skip) | exact rfl | exact ⟨rfl, rfl⟩ | (with_reducible refine RelA.rsl ?_; intro i hi) | (with_reducible refine RelA.arr ?_; intro i hi) | with_reducible refine RelA.pair ?_ ?_ | with_reducible refine RelA.rptr ?_ | (with_reducible refine RelA.rslw ?_; intro i hi) | (refine RelA.rsl ?_; intro i hi) | (refine RelA.rslw ?_; intro i hi) | (refine RelA.arr ?_; intro i hi) | refine RelA.pair ?_ ?_ | refine RelA.tup ?_ | ((first | refine RelA.rslL (by first | rfl | ((try simp only [List.length_take, List.length_drop, List.length_append, List.length_cons, List.length_nil, List.length_map, List.length_range]); omega)) ?_ | refine RelA.rslT (by first | rfl | ((try simp only [List.length_take, List.length_drop, List.length_append, List.length_cons, List.length_nil, List.length_map, List.length_range]); omega)) ?_ | refine RelA.arrL (by first | rfl | ((try simp only [List.length_take, List.length_drop, List.length_append, List.length_cons, List.length_nil, List.length_map, List.length_range]); omega)) ?_); intro i hi; (try simp only [List.length_take, List.length_drop] at hi); (try simp (disch := omega) only [getD_take, getD_drop, Nat.zero_add, Int.toNat_natCast])) | exact RelA.bif_int | refine RelA.fn ?_ ?_ | exact NoId.self (by first | ((repeat' (first | exact trivial | exact rfl | refine NoFr.bif ?_ ?_ | refine NoId.bif ?_ ?_ | refine AllFr.bif ?_ ?_ | (intro i hi) | (refine ⟨?_, ?_⟩) | (intro e; cases e; done))); done) | fail))) <;> (try with_reducible refine Keep.mk ?_) | exact rfl | omega | (intro i hi; (try rw [Nat.zero_add]); first | exact NoId.self (by first | ((repeat' (first | exact trivial | exact rfl | refine NoFr.bif ?_ ?_ | refine NoId.bif ?_ ?_ | refine AllFr.bif ?_ ?_ | (intro i hi) | (refine ⟨?_, ?_⟩) | (intro e; cases e; done))); done) | fail) | exact rfl | (obtain rfl := cs1_ hi; exact rfl) | (rcases cs2_ hi with rfl | rfl <;> exact rfl) | (rcases cs3_ hi with rfl | rfl | rfl <;> exact rfl) | (rcases cs4_ hi with rfl | rfl | rfl | rfl <;> exact rfl)))); done) | fail) : P := h
theorem R_ {P : Prop} (h : P := by first | ((repeat' (first | exact EnvLe.nil | exact HeapLe.nil | with_reducible apply EnvLe.cons | with_reducible apply HeapLe.cons | (with_reducible refine RelA.int ?_; first | (refine Keep.mk ?_; first | with_reducible rfl | omega | decide) | skip) | exact rfl | exact ⟨rfl, rfl⟩ | (with_reducible refine RelA.rsl ?_; intro i hi) | (with_reducible refine RelA.arr ?_; intro i hi) | with_reducible refine RelA.pair ?_ ?_ | with_reducible refine RelA.rptr ?_ | (with_reducible refine RelA.rslw ?_; intro i hi) | (refine RelA.rsl ?_; intro i hi) | (refine RelA.rslw ?_; intro i hi) | (refine RelA.arr ?_; intro i hi) | refine RelA.pair ?_ ?_ | refine RelA.tup ?_ | ((first | refine RelA.rslL (by first | rfl | ((try simp only [List.length_take, List.length_drop, List.length_append, List.length_cons, List.length_nil, List.length_map, List.length_range]); omega)) ?_ | refine RelA.rslT (by first | rfl | ((try simp only [List.length_take, List.length_drop, List.length_append, List.length_cons, List.length_nil, List.length_map, List.length_range]); omega)) ?_ | refine RelA.arrL (by first | rfl | ((try simp only [List.length_take, List.length_drop, List.length_append, List.length_cons, List.length_nil, List.length_map, List.length_range]); omega)) ?_); intro i hi; (try simp only [List.length_take, List.length_drop] at hi); (try simp (disch := omega) only [getD_take, getD_drop, Nat.zero_add, Int.toNat_natCast])) | exact RelA.bif_int | refine RelA.fn ?_ ?_ | exact NoId.self (by first | ((repeat' (first | exact trivial | exact rfl | refine NoFr.bif ?_ ?_ | refine NoId.bif ?_ ?_ | refine AllFr.bif ?_ ?_ | (intro i hi) | (refine ⟨?_, ?_⟩) | (intro e; cases e; done))); done) | fail))) <;> (try with_reducible refine Keep.mk ?_); done) | fail) : P := h
theorem BK_ {P : Prop} (h : P := by first | ((refine back_mk ?_ ?_ ?_ (by rfl) <;> first | (intro e; cases e; done) | (intro _; refine ⟨?_, ?_⟩ <;> repeat' (first | exact trivial | exact rfl | refine NoFr.bif ?_ ?_ | refine NoId.bif ?_ ?_ | refine AllFr.bif ?_ ?_ | (intro i hi) | (refine ⟨?_, ?_⟩) | (intro e; cases e; done))) | (repeat' (first | exact EnvLe.nil | exact HeapLe.nil | with_reducible apply EnvLe.cons | with_reducible apply HeapLe.cons | (with_reducible refine RelA.int ?_; first | (refine Keep.mk ?_; first | with_reducible rfl | omega | decide) | skip) | exact rfl | exact ⟨rfl, rfl⟩ | (with_reducible refine RelA.rsl ?_; intro i hi) | (with_reducible refine RelA.arr ?_; intro i hi) | with_reducible refine RelA.pair ?_ ?_ | with_reducible refine RelA.rptr ?_ | (with_reducible refine RelA.rslw ?_; intro i hi) | (refine RelA.rsl ?_; intro i hi) | (refine RelA.rslw ?_; intro i hi) | (refine RelA.arr ?_; intro i hi) | refine RelA.pair ?_ ?_ | refine RelA.tup ?_ | ((first | refine RelA.rslL (by first | rfl | ((try simp only [List.length_take, List.length_drop, List.length_append, List.length_cons, List.length_nil, List.length_map, List.length_range]); omega)) ?_ | refine RelA.rslT (by first | rfl | ((try simp only [List.length_take, List.length_drop, List.length_append, List.length_cons, List.length_nil, List.length_map, List.length_range]); omega)) ?_ | refine RelA.arrL (by first | rfl | ((try simp only [List.length_take, List.length_drop, List.length_append, List.length_cons, List.length_nil, List.length_map, List.length_range]); omega)) ?_); intro i hi; (try simp only [List.length_take, List.length_drop] at hi); (try simp (disch := omega) only [getD_take, getD_drop, Nat.zero_add, Int.toNat_natCast])) | exact RelA.bif_int | refine RelA.fn ?_ ?_ | exact NoId.self (by first | ((repeat' (first | exact trivial | exact rfl | refine NoFr.bif ?_ ?_ | refine NoId.bif ?_ ?_ | refine AllFr.bif ?_ ?_ | (intro i hi) | (refine ⟨?_, ?_⟩) | (intro e; cases e; done))); done) | fail))) <;> (try with_reducible refine Keep.mk ?_)); done) | fail) : P := h
theorem FR_ {P : Prop} (h : P := by first | ((first | (intro e; cases e; done) | (intro _; repeat' (first | exact trivial | exact rfl | refine NoFr.bif ?_ ?_ | refine NoId.bif ?_ ?_ | refine AllFr.bif ?_ ?_ | (intro i hi) | (refine ⟨?_, ?_⟩) | (intro e; cases e; done)))); done) | fail) : P := h
theorem SS_ {P Q : Prop} (k : Q) (h : Hold_ Q → P := by intro h; ((first | with_reducible refine VC.seq ?_ | with_reducible refine VC.block ?_ | with_reducible refine VC.region ?_ | with_reducible refine VC.exit ?_ | with_reducible refine VC.ret ?_ | with_reducible refine VC.skip ?_ | with_reducible refine Seq.nil ?_ | with_reducible refine thenQ_n ?_ | with_reducible refine thenQ_r ?_ | with_reducible refine thenQ_e ?_ | with_reducible refine inQ_n ?_ | with_reducible refine inQ_r ?_ | with_reducible refine inQ_e ?_ | ((with_reducible refine inQ_o ?_ ?_); rfl) | (refine Seq.ev0 true tt_ok (by rfl) (by (first | exact trivial | exact u8_in _ rfl | exact u32_in _ rfl | ((with_reducible refine AllP.guard ?_); simp only [AllP, inI, fitV, maxK, inK, inbL, inb, List.append, List.cons_append, List.nil_append, true_and, and_true]; first | done | omega))) rfl rfl rfl ?_) | (refine Seq.ev true tt_ok (by rfl) (by (first | exact trivial | exact u8_in _ rfl | exact u32_in _ rfl | ((with_reducible refine AllP.guard ?_); simp only [AllP, inI, fitV, maxK, inK, inbL, inb, List.append, List.cons_append, List.nil_append, true_and, and_true]; first | done | omega))) rfl rfl rfl ?_) | (refine Seq.evn true tt_ok (by rfl) (by (first | exact trivial | exact u8_in _ rfl | exact u32_in _ rfl | ((with_reducible refine AllP.guard ?_); simp only [AllP, inI, fitV, maxK, inK, inbL, inb, List.append, List.cons_append, List.nil_append, true_and, and_true]; first | done | omega))) rfl ?_) | (refine Seq.pass (by rfl) rfl ?_)); repeat (first | with_reducible refine VC.seq ?_ | with_reducible refine VC.block ?_ | with_reducible refine VC.region ?_ | with_reducible refine VC.exit ?_ | with_reducible refine VC.ret ?_ | with_reducible refine VC.skip ?_ | with_reducible refine Seq.nil ?_ | with_reducible refine thenQ_n ?_ | with_reducible refine thenQ_r ?_ | with_reducible refine thenQ_e ?_ | with_reducible refine inQ_n ?_ | with_reducible refine inQ_r ?_ | with_reducible refine inQ_e ?_ | ((with_reducible refine inQ_o ?_ ?_); rfl) | (refine Seq.ev0 true tt_ok (by rfl) (by (first | exact trivial | exact u8_in _ rfl | exact u32_in _ rfl | ((with_reducible refine AllP.guard ?_); simp only [AllP, inI, fitV, maxK, inK, inbL, inb, List.append, List.cons_append, List.nil_append, true_and, and_true]; first | done | omega))) rfl rfl rfl ?_) | (refine Seq.ev true tt_ok (by rfl) (by (first | exact trivial | exact u8_in _ rfl | exact u32_in _ rfl | ((with_reducible refine AllP.guard ?_); simp only [AllP, inI, fitV, maxK, inK, inbL, inb, List.append, List.cons_append, List.nil_append, true_and, and_true]; first | done | omega))) rfl rfl rfl ?_) | (refine Seq.evn true tt_ok (by rfl) (by (first | exact trivial | exact u8_in _ rfl | exact u32_in _ rfl | ((with_reducible refine AllP.guard ?_); simp only [AllP, inI, fitV, maxK, inK, inbL, inb, List.append, List.cons_append, List.nil_append, true_and, and_true]; first | done | omega))) rfl ?_) | (refine Seq.pass (by rfl) rfl ?_))); exact h.out) : P := h ⟨k⟩
theorem DD_ {P Q : Prop} (k : Q) (h : Hold_ Q → P := by intro h; ((first | (refine DSeq.ev0 true tt_ok (by rfl) (fastE (by rfl)) (fastH (by rfl)) (by rfl) (by (first | exact trivial | exact u8_in _ rfl | exact u32_in _ rfl | ((with_reducible refine AllP.guard ?_); simp only [AllP, inI, fitV, maxK, inK, inbL, inb, List.append, List.cons_append, List.nil_append, true_and, and_true]; first | done | omega))) (by rfl) rfl (by rfl) ?_) | (refine DSeq.ev1 true tt_ok (by rfl) (fastE (by rfl)) (fastH (by rfl)) (by rfl) (by (first | exact trivial | exact u8_in _ rfl | exact u32_in _ rfl | ((with_reducible refine AllP.guard ?_); simp only [AllP, inI, fitV, maxK, inK, inbL, inb, List.append, List.cons_append, List.nil_append, true_and, and_true]; first | done | omega))) (by rfl) rfl (by rfl) ?_) | (refine DSeq.pass (by rfl) (fastE (by rfl)) (by rfl) (by rfl) ?_) | (refine DSeq.nil (Seq.drawn (by rfl) (by rfl) ?_))); repeat (first | (refine DSeq.ev0 true tt_ok (by rfl) (fastE (by rfl)) (fastH (by rfl)) (by rfl) (by (first | exact trivial | exact u8_in _ rfl | exact u32_in _ rfl | ((with_reducible refine AllP.guard ?_); simp only [AllP, inI, fitV, maxK, inK, inbL, inb, List.append, List.cons_append, List.nil_append, true_and, and_true]; first | done | omega))) (by rfl) rfl (by rfl) ?_) | (refine DSeq.ev1 true tt_ok (by rfl) (fastE (by rfl)) (fastH (by rfl)) (by rfl) (by (first | exact trivial | exact u8_in _ rfl | exact u32_in _ rfl | ((with_reducible refine AllP.guard ?_); simp only [AllP, inI, fitV, maxK, inK, inbL, inb, List.append, List.cons_append, List.nil_append, true_and, and_true]; first | done | omega))) (by rfl) rfl (by rfl) ?_) | (refine DSeq.pass (by rfl) (fastE (by rfl)) (by rfl) (by rfl) ?_) | (refine DSeq.nil (Seq.drawn (by rfl) (by rfl) ?_)))); exact h.out) : P := h ⟨k⟩
theorem HB_ : (∀ (p : Prop) [Decidable p], (decide p = true) = p) ∧ (∀ (p : Prop) [Decidable p], (decide p = false) = ¬ p) ∧ (∀ b : Bool, ((!b) = true) = (b = false)) ∧ (∀ b : Bool, ((!b) = false) = (b = true)) ∧ (∀ a b : Bool, ((a || b) = true) = (a = true ∨ b = true)) ∧ (∀ a b : Bool, ((a || b) = false) = (a = false ∧ b = false)) ∧ (∀ a b : Bool, ((a && b) = true) = (a = true ∧ b = true)) ∧ (∀ a b : Bool, ((a && b) = false) = (a = false ∨ b = false)) := ⟨fun p _ => by simp, fun p _ => by simp, fun b => by simp, fun b => by simp, fun b => by simp, fun b => by simp, fun b => by simp, fun b => by simp⟩
theorem GG_ {g : Asc} (h : GOk g := by first | exact GOk.nil | exact gK_ok | exact gR_ok | exact gA_ok) : GOk g := h
theorem SG_ {g' g : Asc} (h : subG g' g := by first | exact subG.nil | exact subG.refl | exact gK_A | exact gR_A) : subG g' g := h
theorem LTR_ {b : Bool} (h : b = true := by first | exact rfl | exact decide_eq_true (by omega) | exact not_true (by omega)) : b = true := h
theorem LFA_ {b : Bool} (h : b = false := by first | exact rfl | exact decide_eq_false (by omega) | exact not_false' (by omega)) : b = false := h
end Go.Proofs.YthejnchhddggmaaDoor
