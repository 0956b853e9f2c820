
/- Budgets: New, also with limits and owners that are none. -/
import Derived.Test.YtkhlmicogdjmlaaPe
import Derived.Test.YtkhlmicogdjmlaaRz
set_option linter.unusedSimpArgs false
set_option linter.unusedVariables false
namespace Go.Bg
open Go.Rt Go.Lx
/-- The limits and owners that the law tries. -/
def pF (P P2 : List Rq) (n : Nat) : Nat → List Rq
  | 1 => P2
  | 4 => List.replicate n rz
  | 5 => []
  | _ => P
def wF (W W2 W3 : List Int) (n : Nat) : Nat → List Int
  | 2 => W2
  | 4 => List.replicate n 0
  | 5 => []
  | 6 => W3
  | _ => W
def oF (O O2 : List Rq) (n : Nat) : Nat → List Rq
  | 3 => O2
  | 5 => List.replicate n rz
  | _ => O
theorem pF_ok {P P2 : List Rq} {n : Nat} (h1 : P.length ≤ 1048576) (h2 : P2.length ≤ 1048576) (h3 : n ≤ 1048576) (r1 : ∀ r ∈ P, R64 r) (r2 : ∀ r ∈ P2, R64 r) : ∀ i, (pF P P2 n i).length ≤ 1048576 ∧ ∀ r ∈ pF P P2 n i, R64 r
  | 0 => ⟨h1, r1⟩
  | 1 => ⟨h2, r2⟩
  | 2 => ⟨h1, r1⟩
  | 3 => ⟨h1, r1⟩
  | 4 => ⟨by show (List.replicate n rz).length ≤ _; rw [List.length_replicate]; exact h3, fun r hr => by rw [List.eq_of_mem_replicate (show r ∈ List.replicate n rz from hr)]; exact ⟨by decide, by decide⟩⟩
  | 5 => ⟨by show ([] : List Rq).length ≤ _; decide, fun r hr => by cases (show r ∈ ([] : List Rq) from hr)⟩
  | _ + 6 => ⟨h1, r1⟩
theorem wF_ok {W W2 W3 : List Int} {n : Nat} (h1 : W.length ≤ 1048576) (h2 : W2.length ≤ 1048576) (h4 : W3.length ≤ 1048576) (h3 : n ≤ 1048576) : ∀ i, (wF W W2 W3 n i).length ≤ 1048576
  | 0 => h1
  | 1 => h1
  | 2 => h2
  | 3 => h1
  | 4 => by show (List.replicate n (0 : Int)).length ≤ _; rw [List.length_replicate]; exact h3
  | 5 => by show ([] : List Int).length ≤ _; decide
  | 6 => h4
  | _ + 7 => h1
theorem oF_ok {O O2 : List Rq} {n : Nat} (h1 : O.length ≤ 1048576) (h2 : O2.length ≤ 1048576) (h3 : n ≤ 1048576) (r1 : ∀ r ∈ O, R64 r) (r2 : ∀ r ∈ O2, R64 r) : ∀ i, (oF O O2 n i).length ≤ 1048576 ∧ ∀ r ∈ oF O O2 n i, R64 r
  | 0 => ⟨h1, r1⟩
  | 1 => ⟨h1, r1⟩
  | 2 => ⟨h1, r1⟩
  | 3 => ⟨h2, r2⟩
  | 4 => ⟨h1, r1⟩
  | 5 => ⟨by show (List.replicate n rz).length ≤ _; rw [List.length_replicate]; exact h3, fun r hr => by rw [List.eq_of_mem_replicate (show r ∈ List.replicate n rz from hr)]; exact ⟨by decide, by decide⟩⟩
  | _ + 6 => ⟨h1, r1⟩
theorem rep_any {α : Type} {n i : Nat} {d : α} : (List.replicate n d).getD i d = d := by
  rw [List.getD_eq_getElem?_getD, List.getElem?_replicate]
  split <;> rfl
theorem mem_set_R64 {P : List Rq} {k : Nat} {c : Rq} (h : ∀ r ∈ P, R64 r) (hc : R64 c) : ∀ r ∈ P.set k c, R64 r := fun r hr => by
  rcases List.mem_or_eq_of_mem_set hr with hr | rfl
  · exact h r hr
  · exact hc
theorem mem_snoc_R64 {P : List Rq} {c : Rq} (h : ∀ r ∈ P, R64 r) (hc : R64 c) : ∀ r ∈ P ++ [c], R64 r := fun r hr => by
  rcases List.mem_append.1 hr with hr | hr
  · exact h r hr
  · rw [List.mem_singleton.1 hr]; exact hc
end Go.Bg
namespace Go.Proofs.Ytkhlmicogdjmlaa
open Go.V Go.RowKit Go.L Go.Lx Go.Rt Go.Bg
set_option maxRecDepth 10000
set_option maxHeartbeats 4000000
/-- The lists before they stay. -/
def pK (P : List Rq) (n m : Nat) : Nat → AV
  | 1 => .sl 1 [] 2 0 n
  | 4 => .sl 6 [] 2 0 m
  | 5 => .val (.slice none 0 0)
  | _ => rlV P
def wK (W : List Int) (W3 : AV) (n m : Nat) : Nat → AV
  | 2 => .sl 2 [] 1 0 n
  | 4 => .sl 8 [] 1 0 m
  | 5 => .val (.slice none 0 0)
  | 6 => W3
  | _ => liV W
def oK (O : List Rq) (n m : Nat) : Nat → AV
  | 3 => .sl 5 [] 2 0 n
  | 5 => .sl 10 [] 2 0 m
  | _ => rlV O
theorem viewN_rl {H : Asc} {bor D : Nat → Prop} {id n : Nat} {l : List Rq} (h : get? H id = some (.arr n 2 (fun i => ratA (l.getD i rz)))) (hb : bor id) (hn : l.length = n) : ViewN H bor D (rlV l) (.sl id [] 2 0 n) :=
  ViewN.sl h rfl trivial (by omega) hn hb fun i hi => by rw [Nat.zero_add]; exact .rel (NoId.self NI_)
theorem viewN_li {H : Asc} {bor D : Nat → Prop} {id n : Nat} {l : List Int} (h : get? H id = some (.arr n 1 (fun i => .int .i64 (l.getD i 0)))) (hb : bor id) (hn : l.length = n) : ViewN H bor D (liV l) (.sl id [] 1 0 n) :=
  ViewN.sl h rfl trivial (by omega) hn hb fun i hi => by rw [Nat.zero_add]; exact .rel (NoId.self NI_)
theorem view_seven {H : Asc} {bor D : Nat → Prop} {id : Nat} {F K : Nat → AV} (h : get? H id = some (.arr 7 1 K)) (hb : bor id) (hv : ∀ i, i < 7 → ViewN H bor D (F i) (K i)) : ViewN H bor D (.rsl false 7 1 F) (.sl id [] 1 0 7) :=
  ViewN.sl h rfl trivial (by omega) rfl hb fun i hi => by rw [Nat.zero_add]; exact hv i hi
theorem begins_ok (l : List Int) (hl : IOk l) (aw : Int) (ha : I64 aw) (yb : Int) (hyb : I64 yb) (c : Rq) (hc : R64 c) (many : Int) (hm : I64 many) : Ok Try.prog 3 [] [] (.pair (liV l) (.pair (.int .i64 aw) (.pair (.int .i64 yb) (.pair (ratA c) (.pair (.int .i64 many) .nul))))) (fun r h' => r = .bool true ∧ h' = []) := by
  have h1 := at_lt l 0 6 (by decide)
  have h2 := at_lt l 1 3 (by decide)
  have z0 := begin_ok l hl
  have hP : (bgP l).length = (1 + atI l 0 6).toNat := by rw [costs_len]
  have hW : (bgW l).length = (1 + atI l 0 6).toNat := by rw [owns_len]
  have hO : (bgO l).length = (1 + atI l 1 3).toNat := by rw [costs_len]
  have rP : ∀ r ∈ bgP l, R64 r := cost_r64 (costs_cost (l := l) (f := 3) (m := 12) (n := (1 + atI l 0 6).toNat) (by decide))
  have rO : ∀ r ∈ bgO l, R64 r := cost_r64 (costs_cost (l := l) (f := 5) (m := 30) (n := (1 + atI l 1 3).toNat) (by decide))
  have z0 : Ok Try.prog 9 [] [] (.pair (liV l) .nul) (fun r h' => r = .tup (.pair (rlV (bgP l)) (.pair (liV (bgW l)) (.pair (rlV (bgO l)) .nul))) ∧ h' = []) := z0
  have z9 := lives_ok
  generalize bgP l = P at *
  generalize bgW l = W at *
  generalize bgO l = O at *
  generalize hx : (1 + atI l 0 6).toNat = x at *
  have hx1 : 1 ≤ x ∧ x ≤ 6 := by omega
  have hO1 : 1 ≤ O.length ∧ O.length ≤ 3 := by omega
  clear h1 h2 hx hO
  subst hP
  have z1 := lAround_ok aw P.length ha
  have b1 := around_lt aw P.length (by omega)
  have z2 := take2_ok W (by omega) W.length W.length (by omega) (Nat.min_self _)
  have z4 := lAround_ok many 12 hm
  have b4 := around_lt many 12 (by decide)
  have z5 := lAround_ok many 7 hm
  have b5 := around_lt many 7 (by decide)
  generalize aroundI aw P.length = k at *
  have z3 := z1
  rw [← hW] at z3
  generalize aroundI many 12 = m at *
  generalize aroundI many 7 = q at *
  refine Ok.of_vcC tt_ok Try.func3 rfl rfl (by show 5 ≤ _; decide) 0 (hlt_ok (by rfl)) fun c0 => ?_
  repeat' (first | (refine SS_ ?_) | (refine Seq.callp false (z0) Try.func9 GOk.nil subG.nil (by rfl) (by rfl) rfl rfl rfl rfl rfl (by rfl) rfl VW_ NI_ NI_ FR_ ?_) | (refine VC.drawm (id := 3) [(0, 0), (1, 0), (2, 0), (3, 4), (4, 14), (5, 0), (6, 63)] [7] (by rfl) (by kernel_rfl) (by rfl) ?_) | (refine VC.drawn2 (id := 3) [(0, 0), (1, 0), (2, 0), (3, 4), (4, 14), (5, 0), (6, 63)] [7] (by rfl) (by kernel_rfl) (by rfl) (by rfl) ?_) | (refine DSeq.callp false (z1) Try.func10 GOk.nil subG.nil (by rfl) (fastE (by rfl)) (fastH (by rfl)) (by rfl) (by rfl) rfl rfl rfl rfl rfl (by rfl) (by rfl) VW_ NI_ NI_ FR_ ?_) | (refine Seq.callo false [] [(2, 0)] (.sl 2 [] 1 0 W.length) ([(2, .arr W.length 1 (fun i => .int .i64 (W.getD i 0)))]) 3 (z2) Try.func11 GOk.nil subG.nil (by rfl) (by rfl) rfl rfl rfl rfl rfl (by rfl) rfl (by rfl) (by rfl) (by rfl) (by rfl) VW_ NI_ R_ (noFrL_ok NI_) BK_ ?_) | (refine Seq.callp false (z3) Try.func10 GOk.nil subG.nil (by rfl) (by rfl) rfl rfl rfl rfl rfl (by rfl) rfl VW_ NI_ NI_ FR_ ?_) | (refine Seq.callp false (z4) Try.func10 GOk.nil subG.nil (by rfl) (by rfl) rfl rfl rfl rfl rfl (by rfl) rfl VW_ NI_ NI_ FR_ ?_) | (refine DSeq.callp false (z4) Try.func10 GOk.nil subG.nil (by rfl) (fastE (by rfl)) (fastH (by rfl)) (by rfl) (by rfl) rfl rfl rfl rfl rfl (by rfl) (by rfl) VW_ NI_ NI_ FR_ ?_) | (refine Seq.callp false (z5) Try.func10 GOk.nil subG.nil (by rfl) (by rfl) rfl rfl rfl rfl rfl (by rfl) rfl VW_ NI_ NI_ FR_ ?_) | (refine VC.drawm (id := 6) [(0, 0), (1, 0), (2, 3), (3, 0), (4, 8)] [5, 6] (by rfl) (by kernel_rfl) (by rfl) ?_) | (refine VC.drawn2 (id := 6) [(0, 0), (1, 0), (2, 3), (3, 0), (4, 8)] [5, 6] (by rfl) (by kernel_rfl) (by rfl) (by rfl) ?_) | (refine VC.drawm (id := 8) [(0, 0), (1, 0), (2, 0), (3, 0), (4, 0), (5, 16), (6, 48), (7, 112), (8, 0), (9, 0), (10, 512), (11, 1536), (12, 3840), (13, 8191)] [14] (by rfl) (by kernel_rfl) (by rfl) ?_) | (refine VC.drawn2 (id := 8) [(0, 0), (1, 0), (2, 0), (3, 0), (4, 0), (5, 16), (6, 48), (7, 112), (8, 0), (9, 0), (10, 512), (11, 1536), (12, 3840), (13, 8191)] [14] (by rfl) (by kernel_rfl) (by rfl) (by rfl) ?_) | (refine Seq.lit (by rfl) (by rfl) LT2_ ?_) | (refine VC.litT (by rfl) LTR_ ?_) | (refine VC.litF (by rfl) LFA_ ?_) | (refine DD_ ?_) | (refine DSeq.lit2 (by rfl) (by rfl) (by rfl) LT2_ (by rfl) ?_) | ((refine retQ_ok (by rfl) [] nil_sub ⟨?_, rfl⟩); try rfl) | (refine Seq.litC (by rfl) (by rfl) (fun hb => ?_) (fun hb => ?_) <;> (fail_if_success (with_reducible have := litT_ hb)) <;> (fail_if_success (with_reducible have := litF_ hb)) <;> (try simp only [decide_eq_true_eq, decide_eq_false_iff_not, Bool.not_eq_true', Bool.not_eq_false', Bool.or_eq_true, Bool.or_eq_false_iff, Bool.and_eq_true, Bool.and_eq_false_iff] at hb) <;> (try (exfalso; first | omega | (cases hb; done)))) | (refine VC.cond (by rfl) (fun hb => ?_) (fun hb => ?_) <;> (fail_if_success (with_reducible have := litT_ hb)) <;> (fail_if_success (with_reducible have := litF_ hb)) <;> (try simp only [decide_eq_true_eq, decide_eq_false_iff_not, Bool.not_eq_true', Bool.not_eq_false', Bool.or_eq_true, Bool.or_eq_false_iff, Bool.and_eq_true, Bool.and_eq_false_iff] at hb) <;> (try (exfalso; first | omega | (cases hb; done)))) | (refine DSeq.litC2 (by rfl) (by rfl) (by rfl) (by rfl) (by rfl) (fun hb => ?_) (fun hb => ?_) <;> (fail_if_success (with_reducible have := litT_ hb)) <;> (fail_if_success (with_reducible have := litF_ hb)) <;> (try simp only [decide_eq_true_eq, decide_eq_false_iff_not, Bool.not_eq_true', Bool.not_eq_false', Bool.or_eq_true, Bool.or_eq_false_iff, Bool.and_eq_true, Bool.and_eq_false_iff] at hb) <;> (try (exfalso; first | omega | (cases hb; done)))))
  generalize hnm : (250 + m).toNat = nm at *
  generalize hnq : (12 + q).toNat = nq at *
  have hkP : k.toNat < P.length := by omega
  have hkW : k.toNat < W.length := by omega
  refine VC.conv (s' := ⟨[(20, .int .i64 0), (19, .sl 11 [] 1 0 7), (18, .sl 9 [] 1 0 7), (17, .sl 7 [] 1 0 7)], [(1, .arr P.length 2 (fun i => ratA ((P.set k.toNat c).getD i rz))), (2, .arr W.length 1 (fun i => .int .i64 ((W.set k.toNat yb).getD i 0))), (5, .arr (O.length + 1) 2 (fun i => ratA ((O ++ [c]).getD i rz))), (6, .arr nm 2 (fun i => ratA ((List.replicate nm rz).getD i rz))), (8, .arr nm 1 (fun i => .int .i64 ((List.replicate nm (0 : Int)).getD i 0))), (10, .arr nq 2 (fun i => ratA ((List.replicate nq rz).getD i rz))), (7, .arr 7 1 (pK P P.length nm)), (9, .arr 7 1 (wK W (liV (W.take (W.length - 1))) W.length nm)), (11, .arr 7 1 (oK O (O.length + 1) nq))], [], 12⟩) (by
    refine Sim.less [] (by rfl) ?_ ?_ <;> (repeat' (first | exact EnvLe.nil | exact HeapLe.nil | with_reducible apply EnvLe.cons | with_reducible apply HeapLe.cons | (with_reducible refine RelA.int ?_; first | (refine Keep.mk ?_; first | with_reducible rfl | omega | decide) | skip) | exact rfl | exact ⟨rfl, rfl⟩ | (with_reducible refine RelA.rsl ?_; intro i hi) | (with_reducible refine RelA.arr ?_; intro i hi) | with_reducible refine RelA.pair ?_ ?_ | with_reducible refine RelA.rptr ?_ | (with_reducible refine RelA.rslw ?_; intro i hi) | (refine RelA.rsl ?_; intro i hi) | (refine RelA.rslw ?_; intro i hi) | (refine RelA.arr ?_; intro i hi) | refine RelA.pair ?_ ?_ | refine RelA.tup ?_ | ((first | refine RelA.rslL (by first | rfl | ((try simp only [List.length_take, List.length_drop, List.length_append, List.length_cons, List.length_nil, List.length_map, List.length_range]); omega)) ?_ | refine RelA.rslT (by first | rfl | ((try simp only [List.length_take, List.length_drop, List.length_append, List.length_cons, List.length_nil, List.length_map, List.length_range]); omega)) ?_ | refine RelA.arrL (by first | rfl | ((try simp only [List.length_take, List.length_drop, List.length_append, List.length_cons, List.length_nil, List.length_map, List.length_range]); omega)) ?_); intro i hi; (try simp only [List.length_take, List.length_drop] at hi); (try simp (disch := omega) only [getD_take, getD_drop, Nat.zero_add, Int.toNat_natCast])) | exact RelA.bif_int | refine RelA.fn ?_ ?_ | exact NoId.self (by first | ((repeat' (first | exact trivial | exact rfl | refine NoFr.bif ?_ ?_ | refine NoId.bif ?_ ?_ | refine AllFr.bif ?_ ?_ | (intro i hi) | (refine ⟨?_, ?_⟩) | (intro e; cases e; done))); done) | fail))) <;> (try with_reducible refine Keep.mk ?_)
    · exact rel_setG (G := ratA) (fun e => NI_) hkP rfl
    · exact rel_setG (G := AV.int .i64) (fun e => NI_) hkW rfl
    · exact rel_snocG (G := ratA) (fun e => NI_) hi rfl
    · rw [rep_any]; exact rfl
    · rw [rep_any]; exact rfl
    · rw [rep_any]; exact rfl
    · rw [rep_any]; exact rfl
    · rw [rep_any]; exact rfl
    · match i, hi with
      | 0, _ => exact R_
      | 1, _ => exact R_
      | 2, _ => exact R_
      | 3, _ => exact R_
      | 4, _ => exact R_
      | 5, _ => exact R_
      | 6, _ => exact R_
    · match i, hi with
      | 0, _ => exact R_
      | 1, _ => exact R_
      | 2, _ => exact R_
      | 3, _ => exact R_
      | 4, _ => exact R_
      | 5, _ => exact R_
      | 6, _ =>
        show RelA _ _ (.rsl false (W.take (W.length - 1)).length 1 fun i => .int .i64 ((W.take (W.length - 1)).getD i 0)) (.rsl false (((W.length : Int) - 1).toNat - 0) 1 fun i => .int .i64 (W.getD (0 + i) 0))
        rw [show ((W.length : Int) - 1).toNat - 0 = (W.take (W.length - 1)).length by rw [List.length_take]; omega]
        refine RelA.rsl fun j hj => ?_
        rw [List.length_take] at hj
        rw [take_get (by omega), Nat.zero_add]; exact rfl
    · match i, hi with
      | 0, _ => exact R_
      | 1, _ => exact R_
      | 2, _ => exact R_
      | 3, _ => exact R_
      | 4, _ => exact R_
      | 5, _ => exact R_
      | 6, _ => exact R_) ?_
  refine VC.conv (Sim.stillN (e' := [(20, .int .i64 0), (19, .rsl false 7 1 (fun i => rlV (oF O (O ++ [c]) nq i))), (18, .rsl false 7 1 (fun i => liV (wF W (W.set k.toNat yb) (W.take (W.length - 1)) nm i))), (17, .rsl false 7 1 (fun i => rlV (pF P (P.set k.toNat c) nm i)))]) (h' := []) [1, 2, 5, 6, 7, 8, 9, 10, 11] (by rfl) (by repeat' (first | exact HeapN.nil | refine HeapN.cons (by rfl) (.rel R_) (by rfl) ?_)) (EnvN.cons (by rfl) (.rel R_) (EnvN.cons (by rfl) (view_seven (id := 11) (K := oK O (O.length + 1) nq) (by rfl) rfl fun i hi => by
    match i, hi with
    | 0, _ => exact .rel (NoId.self NI_)
    | 1, _ => exact .rel (NoId.self NI_)
    | 2, _ => exact .rel (NoId.self NI_)
    | 3, _ => exact viewN_rl (by rfl) rfl (by show (O ++ [c]).length = _; rw [List.length_append]; rfl)
    | 4, _ => exact .rel (NoId.self NI_)
    | 5, _ => exact viewN_rl (by rfl) rfl (by show (List.replicate nq rz).length = _; rw [List.length_replicate])
    | 6, _ => exact .rel (NoId.self NI_)) (EnvN.cons (by rfl) (view_seven (id := 9) (K := wK W (liV (W.take (W.length - 1))) W.length nm) (by rfl) rfl fun i hi => by
    match i, hi with
    | 0, _ => exact .rel (NoId.self NI_)
    | 1, _ => exact .rel (NoId.self NI_)
    | 2, _ => exact viewN_li (by rfl) rfl (by show (W.set k.toNat yb).length = _; rw [List.length_set])
    | 3, _ => exact .rel (NoId.self NI_)
    | 4, _ => exact viewN_li (by rfl) rfl (by show (List.replicate nm (0 : Int)).length = _; rw [List.length_replicate])
    | 5, _ => exact ViewN.nil
    | 6, _ => exact .rel (NoId.self NI_)) (EnvN.cons (by rfl) (view_seven (id := 7) (K := pK P P.length nm) (by rfl) rfl fun i hi => by
    match i, hi with
    | 0, _ => exact .rel (NoId.self NI_)
    | 1, _ => exact viewN_rl (by rfl) rfl (by show (P.set k.toNat c).length = _; rw [List.length_set])
    | 2, _ => exact .rel (NoId.self NI_)
    | 3, _ => exact .rel (NoId.self NI_)
    | 4, _ => exact viewN_rl (by rfl) rfl (by show (List.replicate nm rz).length = _; rw [List.length_replicate])
    | 5, _ => exact ViewN.nil
    | 6, _ => exact .rel (NoId.self NI_)) EnvN.nil))))) ?_
  have hF := pF_ok (P := P) (P2 := P.set k.toNat c) (n := nm) (by omega) (by rw [List.length_set]; omega) (by omega) rP (mem_set_R64 rP hc)
  have hG := wF_ok (W := W) (W2 := W.set k.toNat yb) (W3 := W.take (W.length - 1)) (n := nm) (by omega) (by rw [List.length_set]; omega) (by rw [List.length_take]; omega) (by omega)
  have hH := oF_ok (O := O) (O2 := O ++ [c]) (n := nq) (by omega) (by rw [List.length_append]; show O.length + 1 ≤ _; omega) (by omega) rO (mem_snoc_R64 rO hc)
  generalize pF P (P.set k.toNat c) nm = F at *
  generalize wF W (W.set k.toNat yb) (W.take (W.length - 1)) nm = G at *
  generalize oF O (O ++ [c]) nq = H at *
  clear z0 z1 z2 z3 z4 z5 rP rO hkP hkW
  refine VC.loop (fun k : Nat => ⟨[(20, .int .i64 (k : Nat)), (19, .rsl false 7 1 (fun i => rlV (H i))), (18, .rsl false 7 1 (fun i => liV (G i))), (17, .rsl false 7 1 (fun i => rlV (F i)))], [], [], 0⟩) (fun k => k ≤ 7) (fun k => 7 - k) 0 (by omega) (Sim.less [] (by rfl) R_ R_) fun k hk => ?_
  by_cases hkl : k < 7
  · have hF := hF ((k : Nat) : Int).toNat
    have hG := hG ((k : Nat) : Int).toNat
    have hH := hH ((k : Nat) : Int).toNat
    have c3 := fun h => agrees_ok (newB (F ((k : Nat) : Int).toNat) (G ((k : Nat) : Int).toNat) (H ((k : Nat) : Int).toNat)) (new_bok h)
    have c1 := new_yes _ (G ((k : Nat) : Int).toNat) _ hF.2 hH.2
    have c2 := rnew_yes _ (G ((k : Nat) : Int).toNat) _ hF.1 hG hH.1 hF.2 hH.2
    have c4 := new_no _ (G ((k : Nat) : Int).toNat) _ hF.1 hG hH.1 hF.2 hH.2 _ rfl
    have c5 := rnew_no _ (G ((k : Nat) : Int).toNat) _ hF.1 hG hH.1 hF.2 hH.2 _ rfl
    generalize newB (F ((k : Nat) : Int).toNat) (G ((k : Nat) : Int).toNat) (H ((k : Nat) : Int).toNat) = b at *
    generalize newE (F ((k : Nat) : Int).toNat) (G ((k : Nat) : Int).toNat) (H ((k : Nat) : Int).toNat) = e at *
    by_cases he : e = 0
    · have c1 := c1 he
      have c2 := c2 he
      have c3 := c3 he
      clear c4 c5 hF hG hH
      repeat' (first | (refine SS_ ?_) | (refine VC.drawm (id := 13) [(0, 0), (1, 0), (2, 3), (3, 7), (4, 0), (5, 0), (6, 48), (7, 112), (8, 0), (9, 0), (10, 768), (11, 1792), (12, 4095), (13, 8191), (14, 16383), (15, 16383), (16, 32767)] [17] (by rfl) (by kernel_rfl) (by rfl) ?_) | (refine VC.drawn2 (id := 13) [(0, 0), (1, 0), (2, 3), (3, 7), (4, 0), (5, 0), (6, 48), (7, 112), (8, 0), (9, 0), (10, 768), (11, 1792), (12, 4095), (13, 8191), (14, 16383), (15, 16383), (16, 32767)] [17] (by rfl) (by kernel_rfl) (by rfl) (by rfl) ?_) | (refine VC.drawm (id := 14) [(0, 0), (1, 0), (2, 3), (3, 7), (4, 0), (5, 0), (6, 48), (7, 112), (8, 0), (9, 0), (10, 768), (11, 1792), (12, 4095), (13, 8191), (14, 16383), (15, 16383), (16, 32767)] [17] (by rfl) (by kernel_rfl) (by rfl) ?_) | (refine VC.drawn2 (id := 14) [(0, 0), (1, 0), (2, 3), (3, 7), (4, 0), (5, 0), (6, 48), (7, 112), (8, 0), (9, 0), (10, 768), (11, 1792), (12, 4095), (13, 8191), (14, 16383), (15, 16383), (16, 32767)] [17] (by rfl) (by kernel_rfl) (by rfl) (by rfl) ?_) | (refine DSeq.callr false [] [] (.tup (.pair (.ptr 0 []) (.pair (.int .i64 0) .nul))) (bH b) (bH b) 5 (c1) Try.func12 GOk.nil subG.nil (by rfl) (fastE (by rfl)) (fastH (by rfl)) (by rfl) (by rfl) rfl rfl rfl rfl rfl (by rfl) (by rfl) (by rfl) (by rfl) (by rfl) (by repeat (first | exact trivial | refine ⟨rfl, ?_⟩)) (by rfl) (by rfl) (by rfl) VW_ NI_ R_ (noFrL_ok NI_) BK_ ?_) | (refine DSeq.callr false [] [(5, 0), (6, 1), (7, 2), (8, 3), (9, 4), (10, 5), (11, 6)] (.tup (.pair (.ptr 5 []) (.pair (.int .i64 0) .nul))) (rcH b) (rcH b) 12 (c2) Try.func13 GOk.nil subG.nil (by rfl) (fastE (by rfl)) (fastH (by rfl)) (by rfl) (by rfl) rfl rfl rfl rfl rfl (by rfl) (by rfl) (by rfl) (by rfl) (by rfl) (by repeat (first | exact trivial | refine ⟨rfl, ?_⟩)) (by rfl) (by rfl) (by rfl) VW_ NI_ R_ (noFrL_ok NI_) BK_ ?_) | (refine Seq.callo false [] [] (.bool true) (lH b) 12 (c3) Try.func14 GOk.nil subG.nil (by rfl) (by rfl) rfl rfl rfl rfl rfl (by rfl) rfl (by rfl) (by rfl) (by rfl) (by rfl) VW_ NI_ R_ (noFrL_ok NI_) BK_ ?_) | (refine Seq.val (nebool_ok tt_ok (by rfl) (by rfl) (by rfl) false (by first | decide | simp [he])) (by rfl) (by rfl) ?_) | (refine Seq.lit (by rfl) (by rfl) LT2_ ?_) | (refine VC.litT (by rfl) LTR_ ?_) | (refine VC.litF (by rfl) LFA_ ?_) | (refine DD_ ?_) | (refine DSeq.lit2 (by rfl) (by rfl) (by rfl) LT2_ (by rfl) ?_) | ((refine retQ_ok (by rfl) [] nil_sub ⟨?_, rfl⟩); try rfl) | (refine Seq.litC (by rfl) (by rfl) (fun hb => ?_) (fun hb => ?_) <;> (fail_if_success (with_reducible have := litT_ hb)) <;> (fail_if_success (with_reducible have := litF_ hb)) <;> (try simp only [decide_eq_true_eq, decide_eq_false_iff_not, Bool.not_eq_true', Bool.not_eq_false', Bool.or_eq_true, Bool.or_eq_false_iff, Bool.and_eq_true, Bool.and_eq_false_iff] at hb) <;> (try (exfalso; first | omega | (cases hb; done)))) | (refine VC.cond (by rfl) (fun hb => ?_) (fun hb => ?_) <;> (fail_if_success (with_reducible have := litT_ hb)) <;> (fail_if_success (with_reducible have := litF_ hb)) <;> (try simp only [decide_eq_true_eq, decide_eq_false_iff_not, Bool.not_eq_true', Bool.not_eq_false', Bool.or_eq_true, Bool.or_eq_false_iff, Bool.and_eq_true, Bool.and_eq_false_iff] at hb) <;> (try (exfalso; first | omega | (cases hb; done)))) | (refine DSeq.litC2 (by rfl) (by rfl) (by rfl) (by rfl) (by rfl) (fun hb => ?_) (fun hb => ?_) <;> (fail_if_success (with_reducible have := litT_ hb)) <;> (fail_if_success (with_reducible have := litF_ hb)) <;> (try simp only [decide_eq_true_eq, decide_eq_false_iff_not, Bool.not_eq_true', Bool.not_eq_false', Bool.or_eq_true, Bool.or_eq_false_iff, Bool.and_eq_true, Bool.and_eq_false_iff] at hb) <;> (try (exfalso; first | omega | (cases hb; done)))))
      refine ⟨k + 1, by omega, by omega, ?_⟩
      refine Sim.less [] (by rfl) ?_ ?_ <;> (repeat' (first | exact EnvLe.nil | exact HeapLe.nil | with_reducible apply EnvLe.cons | with_reducible apply HeapLe.cons | (with_reducible refine RelA.int ?_; first | (refine Keep.mk ?_; first | with_reducible rfl | omega | decide) | skip) | exact rfl | exact ⟨rfl, rfl⟩ | (with_reducible refine RelA.rsl ?_; intro i hi) | (with_reducible refine RelA.arr ?_; intro i hi) | with_reducible refine RelA.pair ?_ ?_ | with_reducible refine RelA.rptr ?_ | (with_reducible refine RelA.rslw ?_; intro i hi) | (refine RelA.rsl ?_; intro i hi) | (refine RelA.rslw ?_; intro i hi) | (refine RelA.arr ?_; intro i hi) | refine RelA.pair ?_ ?_ | refine RelA.tup ?_ | ((first | refine RelA.rslL (by first | rfl | ((try simp only [List.length_take, List.length_drop, List.length_append, List.length_cons, List.length_nil, List.length_map, List.length_range]); omega)) ?_ | refine RelA.rslT (by first | rfl | ((try simp only [List.length_take, List.length_drop, List.length_append, List.length_cons, List.length_nil, List.length_map, List.length_range]); omega)) ?_ | refine RelA.arrL (by first | rfl | ((try simp only [List.length_take, List.length_drop, List.length_append, List.length_cons, List.length_nil, List.length_map, List.length_range]); omega)) ?_); intro i hi; (try simp only [List.length_take, List.length_drop] at hi); (try simp (disch := omega) only [getD_take, getD_drop, Nat.zero_add, Int.toNat_natCast])) | exact RelA.bif_int | refine RelA.fn ?_ ?_ | exact NoId.self (by first | ((repeat' (first | exact trivial | exact rfl | refine NoFr.bif ?_ ?_ | refine NoId.bif ?_ ?_ | refine AllFr.bif ?_ ?_ | (intro i hi) | (refine ⟨?_, ?_⟩) | (intro e; cases e; done))); done) | fail))) <;> (try with_reducible refine Keep.mk ?_)
    · have c4 := c4 he
      have c5 := c5 he
      clear c1 c2 c3 hF hG hH
      repeat' (first | (refine SS_ ?_) | (refine VC.drawm (id := 13) [(0, 0), (1, 0), (2, 3), (3, 7), (4, 0), (5, 0), (6, 48), (7, 112), (8, 0), (9, 0), (10, 768), (11, 1792), (12, 4095), (13, 8191), (14, 16383), (15, 16383), (16, 32767)] [17] (by rfl) (by kernel_rfl) (by rfl) ?_) | (refine VC.drawn2 (id := 13) [(0, 0), (1, 0), (2, 3), (3, 7), (4, 0), (5, 0), (6, 48), (7, 112), (8, 0), (9, 0), (10, 768), (11, 1792), (12, 4095), (13, 8191), (14, 16383), (15, 16383), (16, 32767)] [17] (by rfl) (by kernel_rfl) (by rfl) (by rfl) ?_) | (refine VC.drawm (id := 14) [(0, 0), (1, 0), (2, 3), (3, 7), (4, 0), (5, 0), (6, 48), (7, 112), (8, 0), (9, 0), (10, 768), (11, 1792), (12, 4095), (13, 8191), (14, 16383), (15, 16383), (16, 32767)] [17] (by rfl) (by kernel_rfl) (by rfl) ?_) | (refine VC.drawn2 (id := 14) [(0, 0), (1, 0), (2, 3), (3, 7), (4, 0), (5, 0), (6, 48), (7, 112), (8, 0), (9, 0), (10, 768), (11, 1792), (12, 4095), (13, 8191), (14, 16383), (15, 16383), (16, 32767)] [17] (by rfl) (by kernel_rfl) (by rfl) (by rfl) ?_) | (refine DSeq.callp false (c4) Try.func12 GOk.nil subG.nil (by rfl) (fastE (by rfl)) (fastH (by rfl)) (by rfl) (by rfl) rfl rfl rfl rfl rfl (by rfl) (by rfl) VW_ NI_ NI_ FR_ ?_) | (refine DSeq.callp false (c5) Try.func13 GOk.nil subG.nil (by rfl) (fastE (by rfl)) (fastH (by rfl)) (by rfl) (by rfl) rfl rfl rfl rfl rfl (by rfl) (by rfl) VW_ NI_ NI_ FR_ ?_) | (refine Seq.val (nebool_ok tt_ok (by rfl) (by rfl) (by rfl) false (by first | decide | simp [he])) (by rfl) (by rfl) ?_) | (refine Seq.lit (by rfl) (by rfl) LT2_ ?_) | (refine VC.litT (by rfl) LTR_ ?_) | (refine VC.litF (by rfl) LFA_ ?_) | (refine DD_ ?_) | (refine DSeq.lit2 (by rfl) (by rfl) (by rfl) LT2_ (by rfl) ?_) | ((refine retQ_ok (by rfl) [] nil_sub ⟨?_, rfl⟩); try rfl) | (refine Seq.litC (by rfl) (by rfl) (fun hb => ?_) (fun hb => ?_) <;> (fail_if_success (with_reducible have := litT_ hb)) <;> (fail_if_success (with_reducible have := litF_ hb)) <;> (try simp only [decide_eq_true_eq, decide_eq_false_iff_not, Bool.not_eq_true', Bool.not_eq_false', Bool.or_eq_true, Bool.or_eq_false_iff, Bool.and_eq_true, Bool.and_eq_false_iff] at hb) <;> (try (exfalso; first | omega | (cases hb; done)))) | (refine VC.cond (by rfl) (fun hb => ?_) (fun hb => ?_) <;> (fail_if_success (with_reducible have := litT_ hb)) <;> (fail_if_success (with_reducible have := litF_ hb)) <;> (try simp only [decide_eq_true_eq, decide_eq_false_iff_not, Bool.not_eq_true', Bool.not_eq_false', Bool.or_eq_true, Bool.or_eq_false_iff, Bool.and_eq_true, Bool.and_eq_false_iff] at hb) <;> (try (exfalso; first | omega | (cases hb; done)))) | (refine DSeq.litC2 (by rfl) (by rfl) (by rfl) (by rfl) (by rfl) (fun hb => ?_) (fun hb => ?_) <;> (fail_if_success (with_reducible have := litT_ hb)) <;> (fail_if_success (with_reducible have := litF_ hb)) <;> (try simp only [decide_eq_true_eq, decide_eq_false_iff_not, Bool.not_eq_true', Bool.not_eq_false', Bool.or_eq_true, Bool.or_eq_false_iff, Bool.and_eq_true, Bool.and_eq_false_iff] at hb) <;> (try (exfalso; first | omega | (cases hb; done)))))
      refine ⟨k + 1, by omega, by omega, ?_⟩
      refine Sim.less [] (by rfl) ?_ ?_ <;> (repeat' (first | exact EnvLe.nil | exact HeapLe.nil | with_reducible apply EnvLe.cons | with_reducible apply HeapLe.cons | (with_reducible refine RelA.int ?_; first | (refine Keep.mk ?_; first | with_reducible rfl | omega | decide) | skip) | exact rfl | exact ⟨rfl, rfl⟩ | (with_reducible refine RelA.rsl ?_; intro i hi) | (with_reducible refine RelA.arr ?_; intro i hi) | with_reducible refine RelA.pair ?_ ?_ | with_reducible refine RelA.rptr ?_ | (with_reducible refine RelA.rslw ?_; intro i hi) | (refine RelA.rsl ?_; intro i hi) | (refine RelA.rslw ?_; intro i hi) | (refine RelA.arr ?_; intro i hi) | refine RelA.pair ?_ ?_ | refine RelA.tup ?_ | ((first | refine RelA.rslL (by first | rfl | ((try simp only [List.length_take, List.length_drop, List.length_append, List.length_cons, List.length_nil, List.length_map, List.length_range]); omega)) ?_ | refine RelA.rslT (by first | rfl | ((try simp only [List.length_take, List.length_drop, List.length_append, List.length_cons, List.length_nil, List.length_map, List.length_range]); omega)) ?_ | refine RelA.arrL (by first | rfl | ((try simp only [List.length_take, List.length_drop, List.length_append, List.length_cons, List.length_nil, List.length_map, List.length_range]); omega)) ?_); intro i hi; (try simp only [List.length_take, List.length_drop] at hi); (try simp (disch := omega) only [getD_take, getD_drop, Nat.zero_add, Int.toNat_natCast])) | exact RelA.bif_int | refine RelA.fn ?_ ?_ | exact NoId.self (by first | ((repeat' (first | exact trivial | exact rfl | refine NoFr.bif ?_ ?_ | refine NoId.bif ?_ ?_ | refine AllFr.bif ?_ ?_ | (intro i hi) | (refine ⟨?_, ?_⟩) | (intro e; cases e; done))); done) | fail))) <;> (try with_reducible refine Keep.mk ?_)
  · obtain rfl : k = 7 := by omega
    repeat' (first | (refine SS_ ?_) | (refine Seq.callp false (z9) Try.func15 GOk.nil subG.nil (by rfl) (by rfl) rfl rfl rfl rfl rfl (by rfl) rfl VW_ NI_ NI_ FR_ ?_) | (refine Seq.lit (by rfl) (by rfl) LT2_ ?_) | (refine VC.litT (by rfl) LTR_ ?_) | (refine VC.litF (by rfl) LFA_ ?_) | (refine DD_ ?_) | (refine DSeq.lit2 (by rfl) (by rfl) (by rfl) LT2_ (by rfl) ?_) | ((refine retQ_ok (by rfl) [] nil_sub ⟨?_, rfl⟩); try rfl) | (refine Seq.litC (by rfl) (by rfl) (fun hb => ?_) (fun hb => ?_) <;> (fail_if_success (with_reducible have := litT_ hb)) <;> (fail_if_success (with_reducible have := litF_ hb)) <;> (try simp only [decide_eq_true_eq, decide_eq_false_iff_not, Bool.not_eq_true', Bool.not_eq_false', Bool.or_eq_true, Bool.or_eq_false_iff, Bool.and_eq_true, Bool.and_eq_false_iff] at hb) <;> (try (exfalso; first | omega | (cases hb; done)))) | (refine VC.cond (by rfl) (fun hb => ?_) (fun hb => ?_) <;> (fail_if_success (with_reducible have := litT_ hb)) <;> (fail_if_success (with_reducible have := litF_ hb)) <;> (try simp only [decide_eq_true_eq, decide_eq_false_iff_not, Bool.not_eq_true', Bool.not_eq_false', Bool.or_eq_true, Bool.or_eq_false_iff, Bool.and_eq_true, Bool.and_eq_false_iff] at hb) <;> (try (exfalso; first | omega | (cases hb; done)))) | (refine DSeq.litC2 (by rfl) (by rfl) (by rfl) (by rfl) (by rfl) (fun hb => ?_) (fun hb => ?_) <;> (fail_if_success (with_reducible have := litT_ hb)) <;> (fail_if_success (with_reducible have := litF_ hb)) <;> (try simp only [decide_eq_true_eq, decide_eq_false_iff_not, Bool.not_eq_true', Bool.not_eq_false', Bool.or_eq_true, Bool.or_eq_false_iff, Bool.and_eq_true, Bool.and_eq_false_iff] at hb) <;> (try (exfalso; first | omega | (cases hb; done)))))
    (refine retC_mk ([(10, .bool true)]) ([]) 0 (Sim.less [] (by rfl) R_ R_) (retQ_ok (by rfl) ([]) (fun i av h => h) ⟨?_, ?_⟩)) <;> rfl
end Go.Proofs.Ytkhlmicogdjmlaa
