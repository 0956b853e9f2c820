
/- dioramaref39.Leaves. -/
import Derived.Test.YtbphmbmdkojbnaaDoorTu
set_option linter.unusedSimpArgs false
set_option linter.unusedVariables false
namespace Go.Proofs.YtbphmbmdkojbnaaDoor
open Go.V Go.RowKit Go.U Go.L
def strsO (m : Nat) (L : List (List UInt8)) : AV := .arr m 1 (fun i => .str (L.getD i []))
def pickS : List (List UInt8) := [[], [97], [98], [97, 98], [99]]
def leafS (l : List Int) (i : Nat) : List UInt8 := pickS.getD (atI l (1 + i) 5).toNat [] ++ [UInt8.ofNat (atI l (2 + i) 256).toNat]
def leavesR (l : List Int) : List (List UInt8) := (List.range (atI l 0 21).toNat).map (leafS l)
theorem leavesR_length (l : List Int) : (leavesR l).length = (atI l 0 21).toNat ∧ (leavesR l).length ≤ 20 := by
  have := at_lt l 0 21 (by decide)
  unfold leavesR
  rw [List.length_map, List.length_range]
  omega
theorem pickS_length (i : Nat) : (pickS.getD i []).length ≤ 2 := by
  rcases Nat.lt_or_ge i 5 with h | h
  · rcases (by omega : i = 0 ∨ i = 1 ∨ i = 2 ∨ i = 3 ∨ i = 4) with rfl | rfl | rfl | rfl | rfl <;> decide
  · rw [List.getD_eq_getElem?_getD, List.getElem?_eq_none (by exact h)]; decide
theorem leaves_LOk (l : List Int) : LOk (leavesR l) := by
  refine ⟨by have := (leavesR_length l).2; omega, fun x hx => ?_⟩
  unfold leavesR at hx
  obtain ⟨i, hi, rfl⟩ := List.mem_map.1 hx
  unfold leafS
  have := pickS_length (atI l (1 + i) 5).toNat
  rw [List.length_append, List.length_singleton]
  omega
theorem hwr (q : Nat) (h : (0 : Int) ≤ q ∧ (q : Int) < 256) : IntKind.u8.wrap (q : Int) = (([UInt8.ofNat q].getD 0 0).toNat : Int) := by
  show (q : Int) % 256 = ((UInt8.ofNat q).toNat : Int)
  rw [UInt8.toNat_ofNat']
  omega
set_option maxRecDepth 10000 in
theorem leaves_ok (l : List Int) (hl : IOk l) : Ok Tryd.prog 9 [] [] (.pair (intsV l) .nul) (fun r h' => r = .sl 9 [] 1 0 (leavesR l).length ∧ h' = [(9, strsO (leavesR l).length (leavesR l))]) := by
  have hl1 := hl.1
  have c1 := at_ok l hl 0 21
  have hn := at_lt l 0 21 (by decide)
  obtain ⟨hlen, hle⟩ := leavesR_length l
  obtain ⟨n, e1⟩ : ∃ n : Nat, atI l 0 21 = n := ⟨(atI l 0 21).toNat, by omega⟩
  have hlen2 : (leavesR l).length = n := by omega
  have hw : ∀ i, i < n → (leavesR l).take (i + 1) = (leavesR l).take i ++ [leafS l i] := fun i hi => by
    rw [List.take_add_one]
    unfold leavesR
    rw [e1]
    simp [hi]
  rw [e1] at c1
  refine Ok.of_vc tt_ok Tryd.func9 rfl rfl (by show 1 ≤ _; decide) 0 (fun i av h => by cases h) fun c0 => ?_
  refine S_ ?_
  refine Seq.callp false (c1) Tryd.func26 GOk.nil subG.nil (by rfl) (by rfl) rfl rfl rfl rfl rfl (by rfl) rfl VW_ NI_ NI_ FR_ ?_
  refine S_ ?_
  refine VC.conv (Sim.ghost 3 1 (fun i => .str (([] : List (List UInt8)).getD i [])) (by rfl) (.inl rfl)) ?_
  refine VC.loop (fun i : Nat => ⟨[(5, .int .i64 (i : Nat)), (4, .int .i64 (n : Nat)), (3, .sl 0 [] 1 0 i), (0, intsV l)], [(0, strsO i ((leavesR l).take i))], [], 1⟩) (fun i => i ≤ n) (fun i => n - i) 0 (by omega) (by refine Sim.less [] (by rfl) ?_ ?_ <;> (repeat' (first | with_reducible refine relA_strs ?_ | first | exact EnvLe.nil | exact HeapLe.nil | with_reducible apply EnvLe.cons | with_reducible apply HeapLe.cons | (with_reducible refine RelA.int ?_; first | (refine Keep.mk ?_; first | with_reducible rfl | omega | decide) | skip) | exact rfl | exact ⟨rfl, rfl⟩ | (with_reducible refine RelA.rsl ?_; intro i hi) | (with_reducible refine RelA.arr ?_; intro i hi) | with_reducible refine RelA.pair ?_ ?_ | with_reducible refine RelA.rptr ?_ | (with_reducible refine RelA.rslw ?_; intro i hi) | (refine RelA.rsl ?_; intro i hi) | (refine RelA.rslw ?_; intro i hi) | (refine RelA.arr ?_; intro i hi) | refine RelA.pair ?_ ?_ | refine RelA.tup ?_ | ((first | refine RelA.rslL (by first | rfl | ((try simp only [List.length_take, List.length_drop, List.length_append, List.length_cons, List.length_nil, List.length_map, List.length_range]); omega)) ?_ | refine RelA.rslT (by first | rfl | ((try simp only [List.length_take, List.length_drop, List.length_append, List.length_cons, List.length_nil, List.length_map, List.length_range]); omega)) ?_ | refine RelA.arrL (by first | rfl | ((try simp only [List.length_take, List.length_drop, List.length_append, List.length_cons, List.length_nil, List.length_map, List.length_range]); omega)) ?_); intro i hi; (try simp only [List.length_take, List.length_drop] at hi); (try simp (disch := omega) only [getD_take, getD_drop, Nat.zero_add, Int.toNat_natCast])) | exact RelA.bif_int | refine RelA.fn ?_ ?_)) <;> (try with_reducible refine Keep.mk ?_)) fun i hi => ?_
  refine S_ ?_
  refine VC.cond (by rfl) (fun hb => ?_) (fun hb => ?_) <;> (try simp only [decide_eq_true_eq, decide_eq_false_iff_not, Bool.not_eq_true', Bool.not_eq_false'] at hb) <;> (try (exfalso; omega))
  · have c2 := at_ok l hl (1 + i) 5
    have c3 := at_ok l hl (2 + i) 256
    have b2 := at_lt l (1 + i) 5 (by decide)
    have b3 := at_lt l (2 + i) 256 (by decide)
    have hlf : leafS l i = pickS.getD (atI l (1 + i) 5).toNat [] ++ [UInt8.ofNat (atI l (2 + i) 256).toNat] := rfl
    rw [show ((1 + i : Nat) : Int) = 1 + (i : Int) by omega] at c2
    rw [show ((2 + i : Nat) : Int) = 2 + (i : Int) by omega] at c3
    obtain ⟨p, e2⟩ : ∃ n : Nat, atI l (1 + i) 5 = n := ⟨(atI l (1 + i) 5).toNat, by omega⟩
    obtain ⟨q, e3⟩ : ∃ n : Nat, atI l (2 + i) 256 = n := ⟨(atI l (2 + i) 256).toNat, by omega⟩
    rw [e2] at c2 b2 hlf
    rw [e3] at c3 b3 hlf
    have hin : i < n := by omega
    clear c1 e2 e3 hb
    have hlt : ((leavesR l).take i).length = i := by rw [List.length_take]; omega
    rcases (by omega : p = 0 ∨ p = 1 ∨ p = 2 ∨ p = 3 ∨ p = 4) with rfl | rfl | rfl | rfl | rfl
    all_goals
      refine S_ ?_
      refine VC.draw (mkP [(0, 0), (1, 0), (2, 0), (3, 0), (4, 8), (5, 28), (6, 62), (7, 126), (8, 0), (9, 0), (10, 512), (11, 1852), (12, 3900), (13, 7996), (14, 16188), (15, 32766), (16, 65534)]) [17, 18] (by rfl) (by kernel_rfl) (by rfl) (by rfl) ?_
      refine D_ ?_
      refine DSeq.callp false (c2) Tryd.func26 GOk.nil subG.nil (by rfl) (fastE (by rfl)) (fastH (by rfl)) (by rfl) (by rfl) rfl rfl rfl rfl rfl (by rfl) (by rfl) VW_ NI_ NI_ FR_ ?_
      refine D_ ?_
      refine DSeq.callp false (c3) Tryd.func26 GOk.nil subG.nil (by rfl) (fastE (by rfl)) (fastH (by rfl)) (by rfl) (by rfl) rfl rfl rfl rfl rfl (by rfl) (by rfl) VW_ NI_ NI_ FR_ ?_
      refine D_ ?_
      refine DSeq.str [UInt8.ofNat q] tt_ok (by rfl) (fastE (by rfl)) (fastH (by rfl)) (by rfl) (by rfl) (by rfl) (by rfl) (by rfl) (by (first | exact trivial | exact u8_in _ rfl | exact u32_in _ rfl | ((with_reducible refine AllP.guard ?_); simp only [AllP, inI, fitV, maxK, inK, inbL, inb, List.append, List.cons_append, List.nil_append, true_and, and_true]; first | done | omega))) (by rfl) (.inl rfl) (by rfl) (by rfl) ?_ ?_ ?_
      · exact rfl
      · intro j hj
        obtain rfl : j = 0 := by omega
        exact congrArg (AV.int .u8) (hwr q b3)
      refine D_ ?_
      refine DSeq.cat (by rfl) (fastE (by rfl)) (fastH (by rfl)) (by rfl) (by rfl) (by rfl) (by simp) (by rfl) ?_ 
      refine D_ ?_
      refine S_ ?_
      refine ⟨i + 1, by omega, by omega, ?_⟩
      rw [hw i hin, hlf]
      refine Sim.less [(0, 4)] (by rfl) ?_ ?_ <;> (repeat' (first | with_reducible refine relA_strs ?_ | first | exact EnvLe.nil | exact HeapLe.nil | with_reducible apply EnvLe.cons | with_reducible apply HeapLe.cons | (with_reducible refine RelA.int ?_; first | (refine Keep.mk ?_; first | with_reducible rfl | omega | decide) | skip) | exact rfl | exact ⟨rfl, rfl⟩ | (with_reducible refine RelA.rsl ?_; intro i hi) | (with_reducible refine RelA.arr ?_; intro i hi) | with_reducible refine RelA.pair ?_ ?_ | with_reducible refine RelA.rptr ?_ | (with_reducible refine RelA.rslw ?_; intro i hi) | (refine RelA.rsl ?_; intro i hi) | (refine RelA.rslw ?_; intro i hi) | (refine RelA.arr ?_; intro i hi) | refine RelA.pair ?_ ?_ | refine RelA.tup ?_ | ((first | refine RelA.rslL (by first | rfl | ((try simp only [List.length_take, List.length_drop, List.length_append, List.length_cons, List.length_nil, List.length_map, List.length_range]); omega)) ?_ | refine RelA.rslT (by first | rfl | ((try simp only [List.length_take, List.length_drop, List.length_append, List.length_cons, List.length_nil, List.length_map, List.length_range]); omega)) ?_ | refine RelA.arrL (by first | rfl | ((try simp only [List.length_take, List.length_drop, List.length_append, List.length_cons, List.length_nil, List.length_map, List.length_range]); omega)) ?_); intro i hi; (try simp only [List.length_take, List.length_drop] at hi); (try simp (disch := omega) only [getD_take, getD_drop, Nat.zero_add, Int.toNat_natCast])) | exact RelA.bif_int | refine RelA.fn ?_ ?_)) <;> (try with_reducible refine Keep.mk ?_)
      exact RelA.of_eq (NoId.self (a := AV.str _) trivial) (joinF_snocG (F := AV.str) hlt hi rfl)
  · obtain rfl : i = n := by omega
    have : (leavesR l).take i = leavesR l := List.take_of_length_le (by omega)
    rw [this]
    rw [hlen2]
    refine VC.conv (s' := ⟨[(3, .sl 9 [] 1 0 i)], [(9, strsO i (leavesR l))], [], 10⟩) (by refine Sim.less [(9, 0)] (by rfl) ?_ ?_ <;> (repeat' (first | exact EnvLe.nil | exact HeapLe.nil | with_reducible apply EnvLe.cons | with_reducible apply HeapLe.cons | (with_reducible refine RelA.int ?_; first | (refine Keep.mk ?_; first | with_reducible rfl | omega | decide) | skip) | exact rfl | exact ⟨rfl, rfl⟩ | (with_reducible refine RelA.rsl ?_; intro i hi) | (with_reducible refine RelA.arr ?_; intro i hi) | with_reducible refine RelA.pair ?_ ?_ | with_reducible refine RelA.rptr ?_ | (with_reducible refine RelA.rslw ?_; intro i hi) | (refine RelA.rsl ?_; intro i hi) | (refine RelA.rslw ?_; intro i hi) | (refine RelA.arr ?_; intro i hi) | refine RelA.pair ?_ ?_ | refine RelA.tup ?_ | ((first | refine RelA.rslL (by first | rfl | ((try simp only [List.length_take, List.length_drop, List.length_append, List.length_cons, List.length_nil, List.length_map, List.length_range]); omega)) ?_ | refine RelA.rslT (by first | rfl | ((try simp only [List.length_take, List.length_drop, List.length_append, List.length_cons, List.length_nil, List.length_map, List.length_range]); omega)) ?_ | refine RelA.arrL (by first | rfl | ((try simp only [List.length_take, List.length_drop, List.length_append, List.length_cons, List.length_nil, List.length_map, List.length_range]); omega)) ?_); intro i hi; (try simp only [List.length_take, List.length_drop] at hi); (try simp (disch := omega) only [getD_take, getD_drop, Nat.zero_add, Int.toNat_natCast])) | exact RelA.bif_int | refine RelA.fn ?_ ?_)) <;> (try with_reducible refine Keep.mk ?_)) ?_
    refine S_ ?_
    exact retQ_ok (by rfl) [(9, strsO i (leavesR l))] (subL_ok ⟨rfl, trivial⟩) ⟨rfl, rfl⟩
end Go.Proofs.YtbphmbmdkojbnaaDoor
