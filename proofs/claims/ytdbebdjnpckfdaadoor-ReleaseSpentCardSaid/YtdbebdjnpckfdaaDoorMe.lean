/- The books of chapter 25's statements: limits. Releases of neighbours: the plain law. Releases from tables with other values, or with the rows in another order; plain. Draws: the first words of the seeds that statements use are low; reckoned by the kernel. -/
import Derived.Test.YtdbebdjnpckfdaaDoorMg
import Derived.Test.YtdbebdjnpckfdaaDoorQo
import Derived.Test.YtdbebdjnpckfdaaDoorRa
set_option linter.unusedSimpArgs false
set_option linter.unusedVariables false
namespace Go.Rl
open Go.V Go.Lx Go.Rt
def limB (a i : Int) : Int := ([20, 12, 9, 30, 3] : List Int).getD a.toNat 0 + i % 2
def lmP (l : List Int) (k : Nat) : List Rq := (List.range k).map fun i : Nat => ⟨limB (atI l ((i : Int) % 7) 5) i, 1⟩
def lmW (l : List Int) (k : Nat) : List Int := (List.range k).map fun i : Nat => atI l ((i : Int) % 5) 3
def lmO (l : List Int) (k : Nat) : List Rq := (List.range k).map fun i : Nat => ⟨5 + atI l (7 + (i : Int)) 60, 1⟩
theorem lmP_step (l : List Int) (k : Nat) : lmP l (k + 1) = lmP l k ++ [⟨limB (atI l ((k : Int) % 7) 5) k, 1⟩] := by unfold lmP; rw [List.range_succ, List.map_append]; rfl
theorem lmW_step (l : List Int) (k : Nat) : lmW l (k + 1) = lmW l k ++ [atI l ((k : Int) % 5) 3] := by unfold lmW; rw [List.range_succ, List.map_append]; rfl
theorem lmO_step (l : List Int) (k : Nat) : lmO l (k + 1) = lmO l k ++ [⟨5 + atI l (7 + (k : Int)) 60, 1⟩] := by unfold lmO; rw [List.range_succ, List.map_append]; rfl
theorem lmP_len (l : List Int) (k : Nat) : (lmP l k).length = k := by unfold lmP; rw [List.length_map, List.length_range]
theorem lmW_len (l : List Int) (k : Nat) : (lmW l k).length = k := by unfold lmW; rw [List.length_map, List.length_range]
theorem lmO_len (l : List Int) (k : Nat) : (lmO l k).length = k := by unfold lmO; rw [List.length_map, List.length_range]
theorem limB_bd {a i : Int} (ha : 0 ≤ a ∧ a < 5) (hi : 0 ≤ i) : 3 ≤ limB a i ∧ limB a i ≤ 31 := by
  unfold limB
  rcases (by omega : a = 0 ∨ a = 1 ∨ a = 2 ∨ a = 3 ∨ a = 4) with rfl | rfl | rfl | rfl | rfl
  · show 3 ≤ 20 + i % 2 ∧ 20 + i % 2 ≤ 31; omega
  · show 3 ≤ 12 + i % 2 ∧ 12 + i % 2 ≤ 31; omega
  · show 3 ≤ 9 + i % 2 ∧ 9 + i % 2 ≤ 31; omega
  · show 3 ≤ 30 + i % 2 ∧ 30 + i % 2 ≤ 31; omega
  · show 3 ≤ 3 + i % 2 ∧ 3 + i % 2 ≤ 31; omega
end Go.Rl
namespace Go.Proofs.YtdbebdjnpckfdaaDoor
open Go.V Go.RowKit Go.U Go.L Go.Lx Go.Dw Go.Rl Go.Rt Go.Bg
set_option maxRecDepth 10000
set_option maxHeartbeats 4000000
theorem viewN_rat' {H : Asc} {bor D : Nat → Prop} {id n : Nat} {l : List Rq} (h : get? H id = some (.arr n 2 (fun i => ratA (l.getD i rz)))) (hb : bor id) (hn : l.length = n) : ViewN H bor D (rlV l) (.sl id [] 2 0 n) :=
  ViewN.sl h rfl trivial (by omega) hn hb fun i hi => by rw [Nat.zero_add]; exact .rel (NoId.self NI_)
theorem limits_ok (l : List Int) (hl : IOk l) : Ok Tryd.prog 9 [] [] (.pair (liV l) .nul) (fun r h' => r = .tup (.pair (rlV (lmP l 40)) (.pair (liV (lmW l 40)) (.pair (rlV (lmO l 3)) .nul))) ∧ h' = []) := by
  have c1 := fun k : Nat => lAt_ok l hl ((k : Int) % 7) 5
  have b1 := fun k : Nat => at_lt l ((k : Int) % 7) 5 (by decide)
  have c2 := fun k : Nat => lAt_ok l hl ((k : Int) % 5) 3
  have c3 := fun k : Nat => lAt_ok l hl (7 + (k : Int)) 60
  have b3 := fun k : Nat => at_lt l (7 + (k : Int)) 60 (by decide)
  have p1 := lmP_step l
  have p2 := lmP_len l
  have w1 := lmW_step l
  have w2 := lmW_len l
  have o1 := lmO_step l
  have o2 := lmO_len l
  refine Ok.of_vcC tt_ok Tryd.func9 rfl rfl (by show 1 ≤ _; decide) 0 (hlt_ok (by rfl)) fun c0 => ?_
  repeat' (first | (refine SS_ ?_) | fail)
  refine VC.conv (Sim.ghost 5 2 (fun i => ratA (([] : List Rq).getD i rz)) (by rfl) (.inl rfl)) ?_
  refine VC.conv (Sim.ghost 6 1 (fun i => .int .i64 (([] : List Int).getD i 0)) (by rfl) (.inl rfl)) ?_
  refine VC.loop (fun k : Nat => ⟨[(7, .int .i64 (k : Nat)), (5, .sl 0 [] 2 0 (lmP l k).length), (6, .sl 1 [] 1 0 (lmW l k).length), (0, liV l)], [(0, .arr (lmP l k).length 2 (fun i => ratA ((lmP l k).getD i rz))), (1, liO (lmW l k))], [], 2⟩) (fun k => k ≤ 40) (fun k => 40 - k) 0 (by omega) (by
    (refine Sim.less [] (by rfl) ?_ ?_ <;> (repeat' (first | (exact EnvLe.nil) | (exact HeapLe.nil) | (with_reducible apply EnvLe.cons) | (with_reducible apply HeapLe.cons) | ((with_reducible refine RelA.int ?_; first | (refine Keep.mk ?_; first | with_reducible rfl | omega | decide) | skip)) | (exact rfl) | (exact ⟨rfl, rfl⟩) | ((with_reducible refine RelA.rsl ?_; intro i hi)) | (with_reducible refine RelA.pair ?_ ?_) | ((refine RelA.arr ?_; intro i hi)) | fail)) <;> (try with_reducible refine Keep.mk ?_))
    all_goals exact rfl) fun k hk => ?_
  by_cases hkn : k < 40
  · have c1 := c1 k
    have b1 := b1 k
    have c2 := c2 k
    have p1 := p1 k
    have p2 := p2 k
    have w1 := w1 k
    have w2 := w2 k
    clear c3 b3 o1 o2
    generalize hTP : lmP l (k + 1) = P2 at *
    generalize lmP l k = P at *
    generalize hTW : lmW l (k + 1) = W2 at *
    generalize lmW l k = W at *
    have hbb := limB_bd b1 (show (0 : Int) ≤ (k : Int) by omega)
    generalize atI l ((k : Int) % 7) 5 = a at *
    generalize atI l ((k : Int) % 5) 3 = o at *
    have hx : limB a k = ([20, 12, 9, 30, 3] : List Int).getD (0 + a.toNat) 0 + (k : Int) % 2 := by rw [Nat.zero_add]; rfl
    rw [hx] at p1 hbb
    clear hx
    repeat' (first | (refine SS_ ?_) | (refine Seq.callq false (c1) Tryd.func7 GG_ SG_ (by rfl) rfl rfl rfl (by rfl) rfl VW_ NI_ NI_ FR_ ?_) | (refine VC.litT (by rfl) LTR_ ?_) | fail)
    refine Seq.conv (s' := ⟨[(20, .ptr 2 [Step.idx (0 + a.toNat) 1]), (14, .sl 0 [] 2 0 P.length), (7, .int .i64 (k : Nat)), (5, .sl 0 [] 2 0 P.length), (6, .sl 1 [] 1 0 W.length), (0, liV l)], [(2, .arr 5 1 (fun i => .int .i64 (([20, 12, 9, 30, 3] : List Int).getD i 0))), (0, .arr P.length 2 (fun i => ratA (P.getD i rz))), (1, liO W)], [], 3⟩) (by
      (refine Sim.less [] (by rfl) ?_ ?_ <;> (repeat' (first | (exact EnvLe.nil) | (exact HeapLe.nil) | (with_reducible apply EnvLe.cons) | (with_reducible apply HeapLe.cons) | ((with_reducible refine RelA.int ?_; first | (refine Keep.mk ?_; first | with_reducible rfl | omega | decide) | skip)) | (exact rfl) | (exact ⟨rfl, rfl⟩) | ((with_reducible refine RelA.rsl ?_; intro i hi)) | ((with_reducible refine RelA.arr ?_; intro i hi)) | (with_reducible refine RelA.pair ?_ ?_) | ((refine RelA.arr ?_; intro i hi)) | fail)) <;> (try with_reducible refine Keep.mk ?_))
      rcases (by omega : i = 0 ∨ i = 1 ∨ i = 2 ∨ i = 3 ∨ i = 4) with rfl | rfl | rfl | rfl | rfl <;> exact R_) ?_
    generalize ([20, 12, 9, 30, 3] : List Int) = L5 at *
    repeat' (first | (refine SS_ ?_) | (refine Seq.callq false (c2) Tryd.func7 GG_ SG_ (by rfl) rfl rfl rfl (by rfl) rfl VW_ NI_ NI_ FR_ ?_) | fail)
    refine ⟨k + 1, by omega, by omega, ?_⟩
    rw [hTP, hTW, p1, w1]
    show ∀ a_1 w, _ → Sim _ ⟨[(7, .int .i64 ((k + 1 : Nat) : Int)), (5, .sl 0 [] 2 0 (P ++ [(⟨L5.getD (0 + a.toNat) 0 + (k : Int) % 2, 1⟩ : Rq)]).length), (6, .sl 1 [] 1 0 (W ++ [o]).length), (0, liV l)], [(0, .arr (P ++ [(⟨L5.getD (0 + a.toNat) 0 + (k : Int) % 2, 1⟩ : Rq)]).length 2 (fun i => ratA ((P ++ [(⟨L5.getD (0 + a.toNat) 0 + (k : Int) % 2, 1⟩ : Rq)]).getD i rz))), (1, .arr (W ++ [o]).length 1 (fun i => .int .i64 ((W ++ [o]).getD i 0)))], [], 2⟩ a_1 w
    rw [List.length_append, List.length_singleton, List.length_append, List.length_singleton]
    (refine Sim.less [(0, 4), (1, 6)] (by rfl) ?_ ?_ <;> (repeat' (first | (exact EnvLe.nil) | (exact HeapLe.nil) | (with_reducible apply EnvLe.cons) | (with_reducible apply HeapLe.cons) | ((with_reducible refine RelA.int ?_; first | (refine Keep.mk ?_; first | with_reducible rfl | omega | decide) | skip)) | (exact rfl) | (exact ⟨rfl, rfl⟩) | ((with_reducible refine RelA.rsl ?_; intro i hi)) | ((refine RelA.arr ?_; intro i hi)) | fail)) <;> (try with_reducible refine Keep.mk ?_))
    · exact rel_snocG (G := ratA) (fun e => NI_) hi
    · exact rel_snocG (G := AV.int .i64) (fun e => NI_) hi
  · obtain rfl : k = 40 := by omega
    repeat' (first | (refine SS_ ?_) | (refine VC.litF (by rfl) LFA_ ?_) | fail)
    refine VC.conv (Sim.stillN (e' := [(9, .int .i64 0), (8, .val (.slice none 0 0)), (5, rlV (lmP l 40)), (6, liV (lmW l 40)), (0, liV l)]) (h' := []) [0, 1] (by rfl) HeapN.nil (EnvN.cons (by rfl) (.rel R_) (EnvN.cons (by rfl) (.rel R_) (EnvN.cons (by rfl) (viewN_rat' (by rfl) rfl rfl) (EnvN.cons (by rfl) (viewN_li' (by rfl) rfl rfl) (by repeat' (first | exact EnvN.nil | refine EnvN.cons (by rfl) (.rel R_) ?_))))))) ?_
    refine VC.conv (Sim.ghost 8 2 (fun i => ratA (([] : List Rq).getD i rz)) (by rfl) (.inl rfl)) ?_
    generalize lmP l 40 = P at *
    generalize lmW l 40 = W at *
    refine VC.loop (fun k : Nat => ⟨[(9, .int .i64 (k : Nat)), (8, .sl 2 [] 2 0 (lmO l k).length), (5, rlV P), (6, liV W), (0, liV l)], [(2, .arr (lmO l k).length 2 (fun i => ratA ((lmO l k).getD i rz)))], [], 3⟩) (fun k => k ≤ 3) (fun k => 3 - k) 0 (by omega) (by
      (refine Sim.less [] (by rfl) ?_ ?_ <;> (repeat' (first | (exact EnvLe.nil) | (exact HeapLe.nil) | (with_reducible apply EnvLe.cons) | (with_reducible apply HeapLe.cons) | ((with_reducible refine RelA.int ?_; first | (refine Keep.mk ?_; first | with_reducible rfl | omega | decide) | skip)) | (exact rfl) | (exact ⟨rfl, rfl⟩) | ((with_reducible refine RelA.rsl ?_; intro i hi)) | (with_reducible refine RelA.pair ?_ ?_) | ((refine RelA.arr ?_; intro i hi)) | fail)) <;> (try with_reducible refine Keep.mk ?_))
      all_goals exact rfl) fun k hk => ?_
    by_cases hkn : k < 3
    · have c3 := c3 k
      have b3 := b3 k
      have o1 := o1 k
      have o2 := o2 k
      clear c1 b1 c2 p1 p2 w1 w2
      generalize hTO : lmO l (k + 1) = O2 at *
      generalize lmO l k = O at *
      generalize atI l (7 + (k : Int)) 60 = a at *
      repeat' (first | (refine SS_ ?_) | (refine Seq.callq false (c3) Tryd.func7 GG_ SG_ (by rfl) rfl rfl rfl (by rfl) rfl VW_ NI_ NI_ FR_ ?_) | (refine VC.litT (by rfl) LTR_ ?_) | fail)
      refine ⟨k + 1, by omega, by omega, ?_⟩
      rw [hTO, o1]
      show ∀ a_1 w, _ → Sim _ ⟨[(9, .int .i64 ((k + 1 : Nat) : Int)), (8, .sl 2 [] 2 0 (O ++ [(⟨5 + a, 1⟩ : Rq)]).length), (5, rlV P), (6, liV W), (0, liV l)], [(2, .arr (O ++ [(⟨5 + a, 1⟩ : Rq)]).length 2 (fun i => ratA ((O ++ [(⟨5 + a, 1⟩ : Rq)]).getD i rz)))], [], 3⟩ a_1 w
      rw [List.length_append, List.length_singleton]
      (refine Sim.less [(2, 4)] (by rfl) ?_ ?_ <;> (repeat' (first | (exact EnvLe.nil) | (exact HeapLe.nil) | (with_reducible apply EnvLe.cons) | (with_reducible apply HeapLe.cons) | ((with_reducible refine RelA.int ?_; first | (refine Keep.mk ?_; first | with_reducible rfl | omega | decide) | skip)) | (exact rfl) | (exact ⟨rfl, rfl⟩) | ((with_reducible refine RelA.rsl ?_; intro i hi)) | (with_reducible refine RelA.pair ?_ ?_) | ((refine RelA.arr ?_; intro i hi)) | fail)) <;> (try with_reducible refine Keep.mk ?_))
      exact rel_snocG (G := ratA) (fun e => NI_) hi
    · obtain rfl : k = 3 := by omega
      repeat' (first | (refine SS_ ?_) | (refine VC.litF (by rfl) LFA_ ?_) | fail)
      refine retC_conv' (Sim.stillV (e' := [(2, rlV P), (3, liV W), (4, rlV (lmO l 3))]) (h' := []) [2] (by rfl) (by repeat' (first | exact HeapV.nil | refine HeapV.cons (by rfl) VW_ NI_ (by rfl) ?_)) (by repeat' (first | exact EnvV.nil | refine EnvV.cons (by rfl) VW_ NI_ ?_))) ?_
      (refine retC_mk ([(2, rlV P), (3, liV W), (4, rlV (lmO l 3))]) ([]) 3 (Sim.less [] (by rfl) R_ R_) (retQ_ok (by rfl) ([]) (fun i av h => h) ⟨?_, ?_⟩)) <;> rfl
end Go.Proofs.YtdbebdjnpckfdaaDoor

namespace Go.Rl
open Go.V Go.Lx
def cL (R : List Row) (f : Nat) (v : Int) : Nat := (R.filter fun r => decide (r.V.getD f 0 = v)).length
theorem cntTo_cL (R : List Row) (f : Nat) (v : Int) : ∀ i, i ≤ R.length → cntTo R f v i = cL (R.take i) f v
  | 0, _ => rfl
  | i + 1, h => by
    have ih := cntTo_cL R f v i (by omega)
    rw [cntTo, ih, take_snoc (d := rowZ) (by omega)]
    unfold cL
    rw [List.filter_append, List.length_append]
    by_cases hv : (R.getD i rowZ).V.getD f 0 = v
    · rw [if_pos hv, List.filter_cons_of_pos (by simpa using hv)]; rfl
    · rw [if_neg hv, List.filter_cons_of_neg (by simpa using hv)]; rfl
theorem cnt_cL (R : List Row) (f : Nat) (v : Int) : cnt R f v = cL R f v := by
  unfold cnt
  rw [cntTo_cL R f v _ (Nat.le_refl _), List.take_length]
/-- What is asked of the weights at a value. -/
structure Near (has k a b : Int) (v : Nat) : Prop where
  a1 : 1 ≤ a ∧ a ≤ 274877906944
  b1 : 1 ≤ b ∧ b ≤ 274877906944
  e : (v : Int) ≠ has → a = b
  ab : a ≤ b * pw k
  ba : b ≤ a * pw k
end Go.Rl

namespace Go.Rl
open Go.V Go.Lx Go.Rt Go.Bg
theorem okE_mem {t : Tab} : okE t = 0 ↔ t.S.length ≤ 8 ∧ t.R.length ≤ 64 ∧ badS t.S = false ∧ (∀ r ∈ t.R, badR t.S r = false) ∧ (ps t.R).Nodup := by
  rw [okE_zero]
  constructor
  · rintro ⟨h1, h2, h3, h4, h5⟩
    refine ⟨h1, h2, h3, fun r hr => ?_, h5⟩
    obtain ⟨j, hj, rfl⟩ := (mem_getD (d := rowZ)).1 hr
    exact h4 j hj
  · rintro ⟨h1, h2, h3, h4, h5⟩
    exact ⟨h1, h2, h3, fun k hk => h4 _ (getD_mem hk), h5⟩
def rot (R : List Row) (n : Nat) : List Row := R.drop n ++ R.take n
theorem rot_perm (R : List Row) (n : Nat) : (rot R n).Perm R := by
  unfold rot
  refine List.perm_append_comm.trans ?_
  rw [List.take_append_drop]
theorem rot_ok {S : List Int} {R : List Row} (h : okE ⟨S, R⟩ = 0) (n : Nat) : okE ⟨S, rot R n⟩ = 0 := by
  obtain ⟨h1, h2, h3, h4, h5⟩ := okE_mem.1 h
  have hp := rot_perm R n
  refine okE_mem.2 ⟨h1, ?_, h3, fun r hr => h4 r (hp.mem_iff.1 hr), ?_⟩
  · show (rot R n).length ≤ 64
    rw [hp.length_eq]; exact h2
  · exact ((hp.map _).nodup_iff).2 h5
theorem srt_perm {a b : List Int} (h : a.Perm b) : srt a = srt b := by
  have ha : (srt a).Pairwise (· ≤ ·) := by
    have := List.pairwise_mergeSort (le := fun x y : Int => decide (x ≤ y)) (fun a b c h1 h2 => by simp at *; omega) (fun a b => by simp; omega) a
    exact this.imp (fun h => by simpa using h)
  have hb : (srt b).Pairwise (· ≤ ·) := by
    have := List.pairwise_mergeSort (le := fun x y : Int => decide (x ≤ y)) (fun a b c h1 h2 => by simp at *; omega) (fun a b => by simp; omega) b
    exact this.imp (fun h => by simpa using h)
  have hp : (srt a).Perm (srt b) := ((List.mergeSort_perm a _).trans h).trans (List.mergeSort_perm b _).symm
  exact hp.eq_of_pairwise (fun x y _ _ h1 h2 => Int.le_antisymm h1 h2) ha hb
theorem pers_of {S : List Int} {R R' : List Row} (h : okE ⟨S, R⟩ = 0) (h' : okE ⟨S, R'⟩ = 0) (hp : (ps R').Perm (ps R)) : pers ⟨S, R'⟩ = pers ⟨S, R⟩ := by
  unfold pers
  rw [if_pos h, if_pos h']
  exact srt_perm hp
theorem pers_ln (S : List Int) (R : List Row) : (pers ⟨S, R⟩).length ≤ R.length := by
  unfold pers
  split
  · exact Nat.le_of_eq ((srt_len _).trans (ps_len _))
  · exact Nat.zero_le _
theorem cnt_perm {R R' : List Row} (hp : R'.Perm R) (f : Nat) (v : Int) : cnt R' f v = cnt R f v := by
  rw [cnt_cL, cnt_cL]
  unfold cL
  exact (hp.filter _).length_eq
/-- The same persons with other values. -/
def othV (values S : List Int) (i : Nat) : List Int := (List.range S.length).map fun k : Nat => atI values (8 * (i : Int) + (k : Int)) (S.getD k 0)
def othN (values S : List Int) (R : List Row) (i : Nat) : List Row := (List.range i).map fun j : Nat => ⟨(R.getD j rowZ).p, othV values S j⟩
theorem othV_len (values S : List Int) (i : Nat) : (othV values S i).length = S.length := by unfold othV; rw [List.length_map, List.length_range]
theorem othN_len (values S : List Int) (R : List Row) (i : Nat) : (othN values S R i).length = i := by unfold othN; rw [List.length_map, List.length_range]
theorem othN_step (values S : List Int) (R : List Row) (i : Nat) : othN values S R (i + 1) = othN values S R i ++ [⟨(R.getD i rowZ).p, othV values S i⟩] := by unfold othN; rw [List.range_succ, List.map_append]; rfl
theorem othN_ps (values S : List Int) (R : List Row) : ps (othN values S R R.length) = ps R := by
  apply List.ext_getElem
  · rw [ps_len, ps_len, othN_len]
  · intro i h1 h2
    rw [ps_len, othN_len] at h1
    have e1 : ∀ X : List Row, ∀ (h : i < (ps X).length), (ps X)[i] = (ps X).getD i 0 := fun X h => by rw [List.getD_eq_getElem?_getD, List.getElem?_eq_getElem h]; rfl
    rw [e1, e1, ps_get, ps_get]
    unfold othN
    rw [List.getD_eq_getElem?_getD, List.getElem?_map, List.getElem?_range h1]; rfl
theorem oth_ok {S : List Int} {R : List Row} (h : okE ⟨S, R⟩ = 0) (values : List Int) : okE ⟨S, othN values S R R.length⟩ = 0 := by
  obtain ⟨h1, h2, h3, h4, h5⟩ := okE_mem.1 h
  refine okE_mem.2 ⟨h1, ?_, h3, fun r hr => ?_, ?_⟩
  · show (othN values S R R.length).length ≤ 64
    rw [othN_len]; exact h2
  · have hr : r ∈ othN values S R R.length := hr
    unfold othN at hr
    obtain ⟨j, hj, rfl⟩ := List.mem_map.1 hr
    have hj := List.mem_range.1 hj
    have hb := badR_false.1 (h4 _ (getD_mem (d := rowZ) hj))
    refine badR_false.2 ⟨⟨hb.1.1, hb.1.2.1, othV_len _ _ _⟩, fun k hk => ?_⟩
    have hk : k < (othV values S j).length := hk
    rw [othV_len] at hk
    have hs : ¬ (S.getD k 0 < 1 ∨ 12 < S.getD k 0) := of_decide_eq_false ((any_false (d := 0)).1 h3 k hk)
    have hg : (othV values S j).getD k 0 = atI values (8 * (j : Int) + (k : Int)) (S.getD k 0) := by
      unfold othV
      rw [List.getD_eq_getElem?_getD, List.getElem?_map, List.getElem?_range hk]; rfl
    show 0 ≤ (othV values S j).getD k 0 ∧ (othV values S j).getD k 0 < S.getD k 0
    rw [hg]
    exact at_lt _ _ _ (by omega)
  · show (ps (othN values S R R.length)).Nodup
    rw [othN_ps]; exact h5
theorem check_fine {S : List Int} {R : List Row} (h : okE ⟨S, R⟩ = 0) {f k : Int} (hf : 0 ≤ f ∧ f < S.length) (hk : 1 ≤ k ∧ k ≤ 12) : checkE ⟨S, R⟩ f k = 0 := checkE_zero.2 ⟨h, hf, hk⟩
/-! The book. -/
theorem gI_one (x : Int) : gI x 1 = 1 := by unfold gI; simp
theorem cost_one {p : Int} (h : 0 ≤ p ∧ p ≤ 1000) : isCost ⟨p, 1⟩ = true := by
  refine cost_iff.2 ⟨valid_iff.2 (.inr ⟨?_, ?_, ?_, ?_, gI_one _⟩), h.1⟩
  · show (1 : Int) ≤ 1; decide
  · show (1 : Int) ≤ 2147483648; decide
  · show -2147483648 ≤ p; omega
  · show p ≤ 2147483648; omega
theorem lm_P {l : List Int} {k : Nat} {r : Rq} (h : r ∈ lmP l k) : ∃ p : Int, 3 ≤ p ∧ p ≤ 31 ∧ r = ⟨p, 1⟩ := by
  unfold lmP at h
  obtain ⟨i, _, rfl⟩ := List.mem_map.1 h
  have := limB_bd (at_lt l ((i : Int) % 7) 5 (by decide)) (show (0 : Int) ≤ (i : Int) by omega)
  exact ⟨_, this.1, this.2, rfl⟩
theorem lm_O {l : List Int} {k : Nat} {r : Rq} (h : r ∈ lmO l k) : ∃ p : Int, 5 ≤ p ∧ p ≤ 64 ∧ r = ⟨p, 1⟩ := by
  unfold lmO at h
  obtain ⟨i, _, rfl⟩ := List.mem_map.1 h
  have := at_lt l (7 + (i : Int)) 60 (by decide)
  exact ⟨_, by omega, by omega, rfl⟩
theorem lm_W {l : List Int} {k : Nat} {x : Int} (h : x ∈ lmW l k) : 0 ≤ x ∧ x < 3 := by
  unfold lmW at h
  obtain ⟨i, _, rfl⟩ := List.mem_map.1 h
  exact at_lt _ _ _ (by decide)
theorem lm_new (l : List Int) : newE (lmP l 40) (lmW l 40) (lmO l 3) = 0 := by
  unfold newE
  rw [lmP_len, lmO_len, lmW_len, if_neg (by decide), if_neg]
  rintro (h | h | h | h)
  · exact h rfl
  · obtain ⟨x, hx, h⟩ := List.any_eq_true.1 h
    have := lm_W hx
    have h := of_decide_eq_true h
    omega
  · obtain ⟨r, hr, h⟩ := List.any_eq_true.1 h
    obtain ⟨p, h1, h2, rfl⟩ := lm_P hr
    rw [cost_one (by omega)] at h; cases h
  · obtain ⟨r, hr, h⟩ := List.any_eq_true.1 h
    obtain ⟨p, h1, h2, rfl⟩ := lm_O hr
    rw [cost_one (by omega)] at h; cases h
abbrev lmB (l : List Int) : Bk := newB (lmP l 40) (lmW l 40) (lmO l 3)
/-- The book after some asks of the same persons at the same cost. -/
def askN (b : Bk) (P : List Int) (c : Rq) : Nat → Bk
  | 0 => b
  | i + 1 => askB (askN b P c i) P c
theorem askN_ok {b : Bk} (hb : BOk b) {P : List Int} (hP : P.length ≤ 256) (c : Rq) : ∀ i, BOk (askN b P c i)
  | 0 => hb
  | i + 1 => ask_bok (askN_ok hb hP c i) hP
end Go.Rl

namespace Go.Dw
set_option maxRecDepth 100000
theorem k_r : lowAll [114] 4 3 5 = true := by decide +kernel
theorem k_s : lowAll [115] 6 1 5 = true := by decide +kernel
end Go.Dw
