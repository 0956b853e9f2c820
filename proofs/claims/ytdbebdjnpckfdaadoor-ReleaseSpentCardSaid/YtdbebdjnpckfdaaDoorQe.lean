/- Tables of private originals: tables made of numbers. -/
import Derived.Test.YtdbebdjnpckfdaaDoorQc
import Derived.Test.YtdbebdjnpckfdaaDoorQd
set_option linter.unusedSimpArgs false
set_option linter.unusedVariables false
namespace Go.Rl
open Go.V Go.Lx
def vTo (k : Int) (S : List Int) (j : Nat) : List Int := (List.range j).map (valAt k S)
theorem vTo_step (k : Int) (S : List Int) (j : Nat) : vTo k S (j + 1) = vTo k S j ++ [valAt k S j] := by
  unfold vTo
  rw [List.range_succ, List.map_append]; rfl
theorem vTo_len (k : Int) (S : List Int) (j : Nat) : (vTo k S j).length = j := by unfold vTo; rw [List.length_map, List.length_range]
theorem madeS_step {l : List Int} {k : Nat} (h : k < (madeS l).length) : (madeS l).take (k + 1) = (madeS l).take k ++ [1 + atI l (1 + (k : Int)) 5] := by
  rw [take_snoc (d := 0) h, madeS_get h]
theorem row_V (l S : List Int) (i : Nat) : (rowM l S i).V = vTo (atI l (5 + (i : Int)) 1048576) S S.length := rfl
theorem pow5 (j : Nat) : (0 : Int) < 5 ^ j := Int.pow_pos (by decide)
theorem madeTo_fit {l S : List Int} (hS : S.length ≤ 8 ∧ badS S = false) (n k : Nat) : ((madeTo l S n).getD k rowZ).V.length ≤ 8 := by
  obtain ⟨h1, _⟩ := madeTo_ok (l := l) hS n
  obtain ⟨_, _, _, h4, _⟩ := okE_zero.1 h1
  rcases Nat.lt_or_ge k (madeTo l S n).length with h | h
  · have h5 := (badR_false.1 (h4 k h)).1.2.2
    have h6 := hS.1
    show ((madeTo l S n).getD k rowZ).V.length ≤ 8
    rw [h5]; exact h6
  · rw [List.getD_eq_getElem?_getD, List.getElem?_eq_none h]; exact Nat.zero_le _
theorem snoc_fit {l S : List Int} (hS : S.length ≤ 8 ∧ badS S = false) (n k : Nat) : ((madeTo l S n ++ [rowM l S n]).getD k rowZ).V.length ≤ 8 := by
  rcases Nat.lt_or_ge k (madeTo l S n).length with h | h
  · rw [app_lt h]; exact madeTo_fit hS n k
  · rw [List.getD_eq_getElem?_getD, List.getElem?_append_right h]
    rcases Nat.eq_zero_or_pos (k - (madeTo l S n).length) with e | e
    · rw [e]
      show (rowM l S n).V.length ≤ 8
      rw [row_V, vTo_len]; exact hS.1
    · rw [List.getElem?_eq_none (by simp; omega)]; exact Nat.zero_le _
end Go.Rl
namespace Go.Proofs.YtdbebdjnpckfdaaDoor
open Go.V Go.RowKit Go.L Go.Lx Go.Rl
set_option maxRecDepth 10000
set_option maxHeartbeats 4000000
abbrev nilS : AV := .val (.slice none 0 0)
theorem viewN_li' {H : Asc} {bor D : Nat → Prop} {id n : Nat} {l : List Int} (h : get? H id = some (.arr n 1 (fun i => .int .i64 (l.getD i 0)))) (hb : bor id) (hn : l.length = n) : ViewN H bor D (liV l) (.sl id [] 1 0 n) :=
  ViewN.sl h rfl trivial (by omega) hn hb fun i hi => by rw [Nat.zero_add]; exact .rel (NoId.self NI_)
theorem made_ok (l : List Int) (hl : IOk l) : Ok Tryd.prog 6 [] [] (.pair (liV l) .nul) (fun r h' => r = tabV (made l).S (made l).R ∧ h' = []) := by
  have c0' := lAt_ok l hl 0 3
  have c1 := fun k : Nat => lAt_ok l hl (1 + k) 5
  have c2 := lAt_ok l hl 4 11
  have c3 := fun k : Nat => lAt_ok l hl (5 + k) 1048576
  have b0 := at_lt l 0 3 (by decide)
  have b1 := fun k : Nat => at_lt l (1 + k) 5 (by decide)
  have b2 := at_lt l 4 11 (by decide)
  have b3 := fun k : Nat => at_lt l (5 + k) 1048576 (by decide)
  have hSl := madeS_len l
  have hS8 := madeS_bd l
  have hSok : (madeS l).length ≤ 8 ∧ badS (madeS l) = false := ⟨by omega, madeS_ok l⟩
  have hSv := fun i (h : i < (madeS l).length) => madeS_val h
  have hst := fun k (h : k < (madeS l).length) => madeS_step h
  have hto : ∀ i, madeTo l (madeS l) (i + 1) = if okE ⟨madeS l, madeTo l (madeS l) i ++ [rowM l (madeS l) i]⟩ = 0 then madeTo l (madeS l) i ++ [rowM l (madeS l) i] else madeTo l (madeS l) i := fun i => rfl
  have hfit := fun n k => madeTo_fit (l := l) hSok n k
  have hsn := fun n k => snoc_fit (l := l) hSok n k
  have hln := fun n => (madeTo_ok (l := l) hSok n).2
  have hrow : ∀ i, rowM l (madeS l) i = ⟨atI l (5 + (i : Int)) 1048576 % 40, vTo (atI l (5 + (i : Int)) 1048576) (madeS l) (madeS l).length⟩ := fun i => rfl
  unfold made
  generalize madeS l = S at *
  generalize hx : atI l 0 3 = x at *
  generalize hy : atI l 4 11 = y at *
  refine Ok.of_vcC tt_ok Tryd.func6 rfl rfl (by show 1 ≤ _; decide) 0 (hlt_ok (by rfl)) fun c0 => ?_
  repeat' (first | (refine SS_ ?_) | (refine Seq.callp false (c0') Tryd.func7 GOk.nil subG.nil (by rfl) (by rfl) rfl rfl rfl rfl rfl (by rfl) rfl VW_ NI_ NI_ FR_ ?_) | fail)
  refine VC.loop (fun k : Nat => match k with
    | 0 => ⟨[(5, .int .i64 0), (4, .int .i64 (1 + x)), (3, .ptr 1 []), (2, .ptr 0 []), (0, liV l)], [(0, .pair nilS (.pair nilS .nul)), (1, .pair nilS (.pair nilS .nul))], [], 2⟩
    | k + 1 => ⟨[(5, .int .i64 ((k + 1 : Nat) : Int)), (4, .int .i64 (1 + x)), (3, .ptr 1 []), (2, .ptr 0 []), (0, liV l)], [(0, .pair nilS (.pair nilS .nul)), (1, .pair (.sl 2 [] 1 0 (S.take (k + 1)).length) (.pair nilS .nul)), (2, liO (S.take (k + 1)))], [], 3⟩) (fun k => k ≤ S.length) (fun k => S.length - k) 0 (by omega) (Sim.less [] (by rfl) R_ R_) fun k hk => ?_
  by_cases hkl : k < S.length
  · have hst := hst k hkl
    have c1 := c1 k
    have b1 := b1 k
    clear hto hfit hsn hln hrow c3 b3 c2 b2 hSok hSv
    rcases k with _ | k
    · show VC _ _ _ ⟨[(5, .int .i64 0), (4, .int .i64 (1 + x)), (3, .ptr 1 []), (2, .ptr 0 []), (0, liV l)], [(0, .pair nilS (.pair nilS .nul)), (1, .pair nilS (.pair nilS .nul))], [], 2⟩
      rw [List.take_zero, List.nil_append] at hst
      generalize hT : S.take (0 + 1) = T2 at *
      repeat' (first | (refine SS_ ?_) | (refine VC.drawm (id := 6) [(0, 0), (1, 1), (2, 0), (3, 0), (4, 8), (5, 28), (6, 60), (7, 124)] [8, 9, 10] (by rfl) (by kernel_rfl) (by rfl) ?_) | (refine DSeq.callp false (c1) Tryd.func7 GOk.nil subG.nil (by rfl) (fastE (by rfl)) (fastH (by rfl)) (by rfl) (by rfl) rfl rfl rfl rfl rfl (by rfl) (by rfl) VW_ NI_ NI_ FR_ ?_) | (refine VC.litT (by rfl) LTR_ ?_) | (refine DD_ ?_) | fail)
      refine ⟨1, by omega, by omega, ?_⟩
      show ∀ a_1 w, _ → Sim _ ⟨[(5, .int .i64 ((0 + 1 : Nat) : Int)), (4, .int .i64 (1 + x)), (3, .ptr 1 []), (2, .ptr 0 []), (0, liV l)], [(0, .pair nilS (.pair nilS .nul)), (1, .pair (.sl 2 [] 1 0 (S.take (0 + 1)).length) (.pair nilS .nul)), (2, liO (S.take (0 + 1)))], [], 3⟩ a_1 w
      rw [hT, hst]
      (refine Sim.less [(2, 3)] (by rfl) ?_ ?_ <;> (repeat' (first | (exact EnvLe.nil) | (exact HeapLe.nil) | (with_reducible apply EnvLe.cons) | (with_reducible apply HeapLe.cons) | ((with_reducible refine RelA.int ?_; first | (refine Keep.mk ?_; first | with_reducible rfl | omega | decide) | skip)) | (exact rfl) | (exact ⟨rfl, rfl⟩) | ((with_reducible refine RelA.rsl ?_; intro i hi)) | (with_reducible refine RelA.pair ?_ ?_) | ((refine RelA.arr ?_; intro i hi)) | fail)) <;> (try with_reducible refine Keep.mk ?_))
      obtain rfl : i = 0 := by
        have hi : i < 1 := hi
        omega
      exact rfl
    · show VC _ _ _ ⟨[(5, .int .i64 ((k + 1 : Nat) : Int)), (4, .int .i64 (1 + x)), (3, .ptr 1 []), (2, .ptr 0 []), (0, liV l)], [(0, .pair nilS (.pair nilS .nul)), (1, .pair (.sl 2 [] 1 0 (S.take (k + 1)).length) (.pair nilS .nul)), (2, liO (S.take (k + 1)))], [], 3⟩
      have hTl : (S.take (k + 1)).length = k + 1 := by rw [List.length_take]; omega
      generalize hT : S.take (k + 1 + 1) = T2 at *
      generalize S.take (k + 1) = T at *
      repeat' (first | (refine SS_ ?_) | (refine VC.drawm (id := 6) [(0, 0), (1, 1), (2, 0), (3, 0), (4, 8), (5, 28), (6, 60), (7, 124)] [8, 9, 10] (by rfl) (by kernel_rfl) (by rfl) ?_) | (refine DSeq.callp false (c1) Tryd.func7 GOk.nil subG.nil (by rfl) (fastE (by rfl)) (fastH (by rfl)) (by rfl) (by rfl) rfl rfl rfl rfl rfl (by rfl) (by rfl) VW_ NI_ NI_ FR_ ?_) | (refine VC.litT (by rfl) LTR_ ?_) | (refine DD_ ?_) | fail)
      refine ⟨k + 1 + 1, by omega, by omega, ?_⟩
      show ∀ a_1 w, _ → Sim _ ⟨[(5, .int .i64 ((k + 1 + 1 : Nat) : Int)), (4, .int .i64 (1 + x)), (3, .ptr 1 []), (2, .ptr 0 []), (0, liV l)], [(0, .pair nilS (.pair nilS .nul)), (1, .pair (.sl 2 [] 1 0 (S.take (k + 1 + 1)).length) (.pair nilS .nul)), (2, liO (S.take (k + 1 + 1)))], [], 3⟩ a_1 w
      rw [hT, hst]
      show ∀ a_1 w, _ → Sim _ ⟨[(5, .int .i64 ((k + 1 + 1 : Nat) : Int)), (4, .int .i64 (1 + x)), (3, .ptr 1 []), (2, .ptr 0 []), (0, liV l)], [(0, .pair nilS (.pair nilS .nul)), (1, .pair (.sl 2 [] 1 0 (T ++ [1 + atI l (1 + ((k + 1 : Nat) : Int)) 5]).length) (.pair nilS .nul)), (2, .arr (T ++ [1 + atI l (1 + ((k + 1 : Nat) : Int)) 5]).length 1 (fun i => .int .i64 ((T ++ [1 + atI l (1 + ((k + 1 : Nat) : Int)) 5]).getD i 0)))], [], 3⟩ a_1 w
      rw [List.length_append, List.length_singleton]
      (refine Sim.less [(2, 4)] (by rfl) ?_ ?_ <;> (repeat' (first | (exact EnvLe.nil) | (exact HeapLe.nil) | (with_reducible apply EnvLe.cons) | (with_reducible apply HeapLe.cons) | ((with_reducible refine RelA.int ?_; first | (refine Keep.mk ?_; first | with_reducible rfl | omega | decide) | skip)) | (exact rfl) | (exact ⟨rfl, rfl⟩) | ((with_reducible refine RelA.rsl ?_; intro i hi)) | (with_reducible refine RelA.pair ?_ ?_) | ((refine RelA.arr ?_; intro i hi)) | fail)) <;> (try with_reducible refine Keep.mk ?_))
      exact rel_snocG (G := AV.int .i64) (fun e => NI_) hi
  · obtain rfl : k = S.length := by omega
    obtain ⟨n, hn⟩ : ∃ n, S.length = n + 1 := ⟨S.length - 1, by omega⟩
    rw [hn]
    show VC _ _ _ ⟨[(5, .int .i64 ((n + 1 : Nat) : Int)), (4, .int .i64 (1 + x)), (3, .ptr 1 []), (2, .ptr 0 []), (0, liV l)], [(0, .pair nilS (.pair nilS .nul)), (1, .pair (.sl 2 [] 1 0 (S.take (n + 1)).length) (.pair nilS .nul)), (2, liO (S.take (n + 1)))], [], 3⟩
    rw [← hn, List.take_length]
    repeat' (first | (refine SS_ ?_) | (refine VC.litF (by rfl) LFA_ ?_) | fail)
    refine VC.conv (Sim.stillN (e' := [(6, .int .i64 0), (4, .int .i64 (1 + x)), (3, .ptr 1 []), (2, .ptr 0 []), (0, liV l)]) (h' := [(0, .pair nilS (.pair nilS .nul)), (1, .pair (liV S) (.pair nilS .nul))]) [2] (by rfl) (HeapN.cons (by rfl) (.rel R_) (by rfl) (HeapN.cons (by rfl) (.pair (viewN_li' (by rfl) rfl rfl) (.rel R_)) (by rfl) HeapN.nil)) (by repeat' (first | exact EnvN.nil | refine EnvN.cons (by rfl) (.rel R_) ?_))) ?_
    refine VC.conv (Sim.ghostF 1 1 2 (fun i => rowA (([] : List Row).getD i rowZ)) (by rfl) (by rfl) (by rfl)) ?_
    clear hst c1 b1 c0'
    refine VC.loop (fun i : Nat => ⟨[(6, .int .i64 (i : Nat)), (4, .int .i64 (1 + x)), (3, .ptr 1 []), (2, .ptr 0 []), (0, liV l)], [(0, .pair nilS (.pair nilS .nul)), (1, .pair (liV S) (.pair (.sl 3 [] 2 0 (madeTo l S i).length) .nul)), (3, rowsO (madeTo l S i))], [], 4⟩) (fun i => i ≤ y.toNat) (fun i => y.toNat - i) 0 (by omega) (by
      rw [show madeTo l S 0 = [] from rfl]
      exact (Sim.less [] (by rfl) R_ R_)) fun i hi => ?_
    by_cases hil : i < y.toNat
    · have c3 := c3 i
      have b3 := b3 i
      have hto := hto i
      have hrow := hrow i
      have hfit := hfit i
      have hsn := hsn i
      have hln := hln i
      generalize atI l (5 + (i : Int)) 1048576 = K at *
      repeat' (first | (refine SS_ ?_) | (refine Seq.callp false (c2) Tryd.func7 GOk.nil subG.nil (by rfl) (by rfl) rfl rfl rfl rfl rfl (by rfl) rfl VW_ NI_ NI_ FR_ ?_) | (refine Seq.callp false (c3) Tryd.func7 GOk.nil subG.nil (by rfl) (by rfl) rfl rfl rfl rfl rfl (by rfl) rfl VW_ NI_ NI_ FR_ ?_) | (refine VC.litT (by rfl) LTR_ ?_) | fail)
      refine VC.conv (s' := ⟨[(9, .int .i64 0), (8, .ptr 4 []), (7, .int .i64 K), (6, .int .i64 (i : Nat)), (4, .int .i64 (1 + x)), (3, .ptr 1 []), (2, .ptr 0 []), (0, liV l)], [(4, .pair (.int .i64 (K % 40)) (.pair nilS .nul)), (0, .pair nilS (.pair nilS .nul)), (1, .pair (liV S) (.pair (.sl 3 [] 2 0 (madeTo l S i).length) .nul)), (3, rowsO (madeTo l S i))], [], 5⟩) (Sim.less [] (by rfl) R_ R_) ?_
      refine VC.conv (Sim.ghostF 4 1 1 (fun i => .int .i64 (([] : List Int).getD i 0)) (by rfl) (by rfl) (by rfl)) ?_
      refine VC.loop (fun j : Nat => ⟨[(9, .int .i64 (j : Nat)), (8, .ptr 4 []), (7, .int .i64 (K / 5 ^ j)), (6, .int .i64 (i : Nat)), (4, .int .i64 (1 + x)), (3, .ptr 1 []), (2, .ptr 0 []), (0, liV l)], [(4, .pair (.int .i64 (K % 40)) (.pair (.sl 5 [] 1 0 (vTo K S j).length) .nul)), (5, liO (vTo K S j)), (0, .pair nilS (.pair nilS .nul)), (1, .pair (liV S) (.pair (.sl 3 [] 2 0 (madeTo l S i).length) .nul)), (3, rowsO (madeTo l S i))], [], 6⟩) (fun j => j ≤ S.length) (fun j => S.length - j) 0 (by omega) (by
        rw [show K / 5 ^ 0 = K from Int.ediv_one K]
        (refine Sim.less [] (by rfl) ?_ ?_ <;> (repeat' (first | (exact EnvLe.nil) | (exact HeapLe.nil) | (with_reducible apply EnvLe.cons) | (with_reducible apply HeapLe.cons) | ((with_reducible refine RelA.int ?_; first | (refine Keep.mk ?_; first | with_reducible rfl | omega | decide) | skip)) | (exact rfl) | (exact ⟨rfl, rfl⟩) | ((with_reducible refine RelA.rsl ?_; intro i hi)) | ((with_reducible refine RelA.arr ?_; intro i hi)) | (with_reducible refine RelA.pair ?_ ?_) | ((refine RelA.arr ?_; intro i hi)) | fail)) <;> (try with_reducible refine Keep.mk ?_))
        all_goals exact rfl) fun j hj => ?_
      by_cases hjl : j < S.length
      · have hSj := hSv j hjl
        have hst := vTo_step K S j
        have hlj := vTo_len K S j
        have hD1 : K / 5 ^ (j + 1) = K / 5 ^ j / 5 := by rw [Int.pow_succ, ← Int.ediv_ediv_of_nonneg (Int.le_of_lt (pow5 j))]
        have hD0 : 0 ≤ K / 5 ^ j := Int.ediv_nonneg b3.1 (Int.le_of_lt (pow5 j))
        have hDK : K / 5 ^ j ≤ K := Int.ediv_le_self _ b3.1
        have hva : valAt K S j = K / 5 ^ j / 40 % S.getD j 0 := rfl
        have hj0 : (j : Int).toNat = j := Int.toNat_natCast j
        rw [← hj0] at hSj
        rw [hva, ← hj0] at hst
        rw [hj0] at hst
        generalize hT : vTo K S (j + 1) = T2 at *
        generalize vTo K S j = T at *
        clear hto hrow hfit hsn hln hva
        generalize hD2 : K / 5 ^ (j + 1) = D2 at *
        generalize K / 5 ^ j = D at *
        repeat' (first | (refine SS_ ?_) | (refine VC.drawm (id := 15) [(0, 0), (1, 1), (2, 0), (3, 4), (4, 0), (5, 16), (6, 0), (7, 112), (8, 240), (9, 508), (10, 1020)] [11, 12, 13] (by rfl) (by kernel_rfl) (by rfl) ?_) | (refine VC.litT (by rfl) LTR_ ?_) | (refine DD_ ?_) | fail)
        refine ⟨j + 1, by omega, by omega, ?_⟩
        rw [hT, hst, hD2]
        show ∀ a_1 w, _ → Sim _ ⟨[(9, .int .i64 ((j + 1 : Nat) : Int)), (8, .ptr 4 []), (7, .int .i64 D2), (6, .int .i64 (i : Nat)), (4, .int .i64 (1 + x)), (3, .ptr 1 []), (2, .ptr 0 []), (0, liV l)], [(4, .pair (.int .i64 (K % 40)) (.pair (.sl 5 [] 1 0 (T ++ [D / 40 % S.getD ((j : Nat) : Int).toNat 0]).length) .nul)), (5, .arr (T ++ [D / 40 % S.getD ((j : Nat) : Int).toNat 0]).length 1 (fun i => .int .i64 ((T ++ [D / 40 % S.getD ((j : Nat) : Int).toNat 0]).getD i 0))), (0, .pair nilS (.pair nilS .nul)), (1, .pair (liV S) (.pair (.sl 3 [] 2 0 (madeTo l S i).length) .nul)), (3, rowsO (madeTo l S i))], [], 6⟩ a_1 w
        rw [List.length_append, List.length_singleton]
        (refine Sim.less [(5, 7)] (by rfl) ?_ ?_ <;> (repeat' (first | (exact EnvLe.nil) | (exact HeapLe.nil) | (with_reducible apply EnvLe.cons) | (with_reducible apply HeapLe.cons) | ((with_reducible refine RelA.int ?_; first | (refine Keep.mk ?_; first | with_reducible rfl | omega | decide) | skip)) | (exact rfl) | (exact ⟨rfl, rfl⟩) | ((with_reducible refine RelA.rsl ?_; intro i hi)) | ((with_reducible refine RelA.arr ?_; intro i hi)) | (with_reducible refine RelA.pair ?_ ?_) | ((refine RelA.arr ?_; intro i hi)) | fail)) <;> (try with_reducible refine Keep.mk ?_))
        exact rel_snocG (G := AV.int .i64) (fun e => NI_) hi
      · obtain rfl : j = S.length := by omega
        have hVl := vTo_len K S S.length
        have c4 := rvalid_ok S (madeTo l S i ++ [rowM l S i]) (by omega) (by rw [List.length_append, List.length_singleton]; omega) (fun k => Nat.le_trans (hsn k) (by decide))
        have c5 := rvalid_ok S (madeTo l S i) (by omega) (by omega) (fun k => Nat.le_trans (hfit k) (by decide))
        rw [hrow] at c4 hto hsn
        generalize hV : vTo K S S.length = V at *
        generalize hM : madeTo l S (i + 1) = M2 at *
        generalize madeTo l S i = M at *
        generalize okE ⟨S, M ++ [⟨K % 40, V⟩]⟩ = E at *
        clear hfit hsn hSv hrow
        repeat' (first | (refine SS_ ?_) | (refine VC.litF (by rfl) LFA_ ?_) | fail)
        refine Seq.conv (s' := ⟨[(67, .pair (liV S) (.pair (.sl 7 [] 2 0 (M.length + 1)) .nul)), (6, .int .i64 (i : Nat)), (4, .int .i64 (1 + x)), (3, .ptr 1 []), (2, .ptr 0 []), (0, liV l)], [(0, .pair nilS (.pair nilS .nul)), (1, .pair (liV S) (.pair (.sl 7 [] 2 0 (M.length + 1)) .nul)), (5, liO V), (7, .arr (M.length + 1) 2 (joinF M.length (fun i => rowA (M.getD i rowZ)) (fun _ => .pair (.int .i64 (K % 40)) (.pair (.sl 5 [] 1 0 V.length) .nul))))], [], 8⟩) (by
          (refine Sim.less [] (by rfl) ?_ ?_ <;> (repeat' (first | (exact EnvLe.nil) | (exact HeapLe.nil) | (with_reducible apply EnvLe.cons) | (with_reducible apply HeapLe.cons) | ((with_reducible refine RelA.int ?_; first | (refine Keep.mk ?_; first | with_reducible rfl | omega | decide) | skip)) | (exact rfl) | (exact ⟨rfl, rfl⟩) | ((with_reducible refine RelA.rsl ?_; intro i hi)) | ((with_reducible refine RelA.arr ?_; intro i hi)) | (with_reducible refine RelA.pair ?_ ?_) | ((refine RelA.arr ?_; intro i hi)) | fail)) <;> (try with_reducible refine Keep.mk ?_))
          rcases Nat.lt_or_ge i M.length with h | h
          · rw [joinF_lt h, joinF_lt h]; exact NoId.self NI_
          · obtain rfl : i = M.length := by
              have hi : i < M.length + 1 := hi
              omega
            rw [joinF_ge (Nat.le_refl _), joinF_ge (Nat.le_refl _), Nat.sub_self]
            show RelA _ _ (.pair (.int .i64 (K % 40)) (.pair (.sl 5 [] 1 0 V.length) .nul)) (.pair (.int .i64 (K % 40)) (.pair (.sl 5 [] 1 0 V.length) .nul))
            exact R_) ?_
        refine Seq.conv (Sim.stillN (e' := [(67, .pair (liV S) (.pair (.sl 7 [] 2 0 (M.length + 1)) .nul)), (6, .int .i64 (i : Nat)), (4, .int .i64 (1 + x)), (3, .ptr 1 []), (2, .ptr 0 []), (0, liV l)]) (h' := [(0, .pair nilS (.pair nilS .nul)), (1, .pair (liV S) (.pair (.sl 7 [] 2 0 (M.length + 1)) .nul)), (7, .arr (M.length + 1) 2 (fun i => rowA ((M ++ [(⟨K % 40, V⟩ : Row)]).getD i rowZ)))]) [5] (by rfl) (HeapN.cons (by rfl) (.rel R_) (by rfl) (HeapN.cons (by rfl) (.rel R_) (by rfl) (HeapN.cons (by rfl) (.arr rfl fun i hi => by
          rcases Nat.lt_or_ge i M.length with h | h
          · rw [joinF_lt h, app_lt h]; exact .rel (NoId.self NI_)
          · obtain rfl : i = M.length := by omega
            rw [joinF_ge (Nat.le_refl _), app_eq]
            exact .pair (.rel (NoId.self NI_)) (.pair (viewN_li' (by rfl) rfl rfl) (.rel (NoId.self NI_)))) (by rfl) HeapN.nil))) (by repeat' (first | exact EnvN.nil | refine EnvN.cons (by rfl) (.rel R_) ?_))) ?_
        refine Seq.callp true (c4) Tryd.func18 GOk.nil subG.nil (by rfl) (by rfl) rfl rfl rfl rfl rfl (by rfl) rfl ?_ NI_ NI_ FR_ ?_
        · repeat' (first | exact View.rel ⟨rfl, rfl⟩ | (refine View.sln (by rfl) (by rfl) (by (first | exact trivial | exact u8_in _ rfl | exact u32_in _ rfl | ((with_reducible refine AllP.guard ?_); simp only [AllP, inI, fitV, maxK, inK, inbL, inb, List.append, List.cons_append, List.nil_append, true_and, and_true]; first | done | omega))) ?_ ⟨rfl, rfl⟩ ?_ ?_) | exact View.nil | exact View.emp | refine View.pair ?_ ?_ | refine View.fn ?_ ?_ | refine View.ptr (by rfl) (by rfl) (by (first | exact trivial | exact u8_in _ rfl | exact u32_in _ rfl | ((with_reducible refine AllP.guard ?_); simp only [AllP, inI, fitV, maxK, inK, inbL, inb, List.append, List.cons_append, List.nil_append, true_and, and_true]; first | done | omega))) (by rfl) ⟨rfl, rfl⟩ ?_ | exact View.rel (NoId.self (by first | ((repeat' (first | exact trivial | exact rfl | refine NoFr.bif ?_ ?_ | refine NoId.bif ?_ ?_ | refine AllFr.bif ?_ ?_ | (intro i hi) | (refine ⟨?_, ?_⟩) | (intro e; cases e; done))); done) | fail)) | (exact NoId.self (by first | ((repeat' (first | exact trivial | exact rfl | refine NoFr.bif ?_ ?_ | refine NoId.bif ?_ ?_ | refine AllFr.bif ?_ ?_ | (intro i hi) | (refine ⟨?_, ?_⟩) | (intro e; cases e; done))); done) | fail)) | exact ⟨rfl, rfl⟩ | (refine View.rel ?_; repeat' (first | exact EnvLe.nil | exact HeapLe.nil | with_reducible apply EnvLe.cons | with_reducible apply HeapLe.cons | (with_reducible refine RelA.int ?_; first | (refine Keep.mk ?_; first | with_reducible rfl | omega | decide) | skip) | exact rfl | exact ⟨rfl, rfl⟩ | (with_reducible refine RelA.rsl ?_; intro i hi) | (with_reducible refine RelA.arr ?_; intro i hi) | with_reducible refine RelA.pair ?_ ?_ | with_reducible refine RelA.rptr ?_ | (with_reducible refine RelA.rslw ?_; intro i hi) | (refine RelA.rsl ?_; intro i hi) | (refine RelA.rslw ?_; intro i hi) | (refine RelA.arr ?_; intro i hi) | refine RelA.pair ?_ ?_ | refine RelA.tup ?_ | ((first | refine RelA.rslL (by first | rfl | ((try simp only [List.length_take, List.length_drop, List.length_append, List.length_cons, List.length_nil, List.length_map, List.length_range]); omega)) ?_ | refine RelA.rslT (by first | rfl | ((try simp only [List.length_take, List.length_drop, List.length_append, List.length_cons, List.length_nil, List.length_map, List.length_range]); omega)) ?_ | refine RelA.arrL (by first | rfl | ((try simp only [List.length_take, List.length_drop, List.length_append, List.length_cons, List.length_nil, List.length_map, List.length_range]); omega)) ?_); intro i hi; (try simp only [List.length_take, List.length_drop] at hi); (try simp (disch := omega) only [getD_take, getD_drop, Nat.zero_add, Int.toNat_natCast])) | exact RelA.bif_int | refine RelA.fn ?_ ?_ | exact NoId.self (by first | ((repeat' (first | exact trivial | exact rfl | refine NoFr.bif ?_ ?_ | refine NoId.bif ?_ ?_ | refine AllFr.bif ?_ ?_ | (intro i hi) | (refine ⟨?_, ?_⟩) | (intro e; cases e; done))); done) | fail))) <;> (try with_reducible refine Keep.mk ?_) | exact rfl | omega | (intro i hi; (try rw [Nat.zero_add]); first | exact NoId.self (by first | ((repeat' (first | exact trivial | exact rfl | refine NoFr.bif ?_ ?_ | refine NoId.bif ?_ ?_ | refine AllFr.bif ?_ ?_ | (intro i hi) | (refine ⟨?_, ?_⟩) | (intro e; cases e; done))); done) | fail) | exact rfl | (obtain rfl := cs1_ hi; exact rfl) | (rcases cs2_ hi with rfl | rfl <;> exact rfl) | (rcases cs3_ hi with rfl | rfl | rfl <;> exact rfl) | (rcases cs4_ hi with rfl | rfl | rfl | rfl <;> exact rfl)))
          rw [List.length_append]; rfl
        · by_cases hE : E = 0
          · rw [if_pos hE] at hto
            subst hE
            repeat' (first | (refine SS_ ?_) | (refine VC.litF (by rfl) LFA_ ?_) | fail)
            refine ⟨i + 1, by omega, by omega, ?_⟩
            rw [hM, hto]
            show ∀ a_1 w, _ → Sim _ ⟨[(6, .int .i64 ((i + 1 : Nat) : Int)), (4, .int .i64 (1 + x)), (3, .ptr 1 []), (2, .ptr 0 []), (0, liV l)], [(0, .pair nilS (.pair nilS .nul)), (1, .pair (liV S) (.pair (.sl 3 [] 2 0 (M ++ [(⟨K % 40, V⟩ : Row)]).length) .nul)), (3, .arr (M ++ [(⟨K % 40, V⟩ : Row)]).length 2 (fun i => rowA ((M ++ [(⟨K % 40, V⟩ : Row)]).getD i rowZ)))], [], 4⟩ a_1 w
            rw [List.length_append, List.length_singleton]
            exact (Sim.less [(3, 7)] (by rfl) R_ R_)
          · rw [if_neg hE] at hto
            repeat' (first | (refine SS_ ?_) | (refine VC.litT (by rfl) LTR_ ?_) | fail)
            refine ⟨i + 1, by omega, by omega, ?_⟩
            rw [hM, hto]
            refine fun a w hs => ?_
            refine (?_ : ∀ a w, Sim _ _ a w → Sim _ _ a w) a w (Sim.cut 7 M.length (by rfl) (by omega) (by rfl) a w hs)
            (refine Sim.less [(3, 7)] (by rfl) ?_ ?_ <;> (repeat' (first | (exact EnvLe.nil) | (exact HeapLe.nil) | (with_reducible apply EnvLe.cons) | (with_reducible apply HeapLe.cons) | ((with_reducible refine RelA.int ?_; first | (refine Keep.mk ?_; first | with_reducible rfl | omega | decide) | skip)) | (exact rfl) | (exact ⟨rfl, rfl⟩) | ((with_reducible refine RelA.rsl ?_; intro i hi)) | ((with_reducible refine RelA.arr ?_; intro i hi)) | (with_reducible refine RelA.pair ?_ ?_) | fail)) <;> (try with_reducible refine Keep.mk ?_))
            · refine ⟨?_, rfl⟩
              rw [show ((((M.length + 1 : Nat) : Int) - 1).toNat - 0) = M.length by omega]; rfl
            · rw [app_lt hi]
            · rw [app_lt hi]; exact NoId.self NI_
    · obtain rfl : i = y.toNat := by omega
      generalize madeTo l S y.toNat = M at *
      repeat' (first | (refine SS_ ?_) | (refine Seq.callp false (c2) Tryd.func7 GOk.nil subG.nil (by rfl) (by rfl) rfl rfl rfl rfl rfl (by rfl) rfl VW_ NI_ NI_ FR_ ?_) | (refine VC.litF (by rfl) LFA_ ?_) | fail)
      refine retC_conv' (Sim.stillN (e' := [(2, .ptr 0 [])]) (h' := [(0, tabV S M)]) [3] (by rfl) (HeapN.cons (by rfl) (.pair (.rel (NoId.self NI_)) (.pair (viewN_rows (by rfl) rfl rfl) (.rel (NoId.self NI_)))) (by rfl) HeapN.nil) (EnvN.cons (by rfl) (.rel R_) EnvN.nil)) ?_
      exact retC_mk [(2, .ptr 0 [])] [(0, tabV S M)] 4 (Sim.less [] (by rfl) R_ R_) (retQ_ok (by rfl) [] nil_sub ⟨rfl, rfl⟩)
end Go.Proofs.YtdbebdjnpckfdaaDoor
