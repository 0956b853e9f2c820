/- dioramalaw25: tables of the package and of the reference; the documented examples. dioramalaw25: the documented examples. -/
import Derived.Test.YtdbebdjnpckfdaaDoorQm
set_option linter.unusedSimpArgs false
set_option linter.unusedVariables false
namespace Go.Rl
open Go.V Go.Lx
theorem row_eq {a b : Row} : a = b ↔ a.p = b.p ∧ a.V = b.V := ⟨fun h => by rw [h]; exact ⟨rfl, rfl⟩, fun h => by cases a; cases b; simp_all⟩
instance : DecidableEq Row := fun a b => decidable_of_iff (a.p = b.p ∧ a.V = b.V) row_eq.symm
end Go.Rl
namespace Go.Proofs.YtdbebdjnpckfdaaDoor
open Go.V Go.RowKit Go.L Go.Lx Go.Rl
set_option maxRecDepth 10000
set_option maxHeartbeats 4000000
theorem lSame_ok (A B : List Int) (hA : A.length ≤ 9223372036854775807) (hB : B.length ≤ 9223372036854775807) : Ok Tryd.prog 13 [] [] (.pair (liV A) (.pair (liV B) .nul)) (fun r h' => r = .bool (decide (A = B)) ∧ h' = []) := by
  by_cases hlen : A.length = B.length
  · refine Ok.of_vcC tt_ok Tryd.func13 rfl rfl (by show 2 ≤ _; decide) 0 (hlt_ok (by rfl)) fun c0 => ?_
    repeat' (first | (refine SS_ ?_) | (refine VC.litF (by rfl) LFA_ ?_) | fail)
    refine VC.loop (fun k : Nat => ⟨[(5, .int .i64 (k : Nat)), (1, liV B), (0, liV A)], [], [], 0⟩) (fun k => k ≤ A.length ∧ ∀ j, j < k → A.getD j 0 = B.getD j 0) (fun k => A.length - k) 0 ⟨by omega, fun j hj => absurd hj (Nat.not_lt_zero _)⟩ (Sim.less [] (by rfl) R_ R_) fun k hk => ?_
    obtain ⟨hk, hall⟩ := hk
    by_cases hkn : k < A.length
    · have hg1 : A.getD ((k : Nat) : Int).toNat 0 = A.getD k 0 := by rw [Int.toNat_natCast]
      have hg2 : B.getD ((k : Nat) : Int).toNat 0 = B.getD k 0 := by rw [Int.toNat_natCast]
      repeat' (first | (refine SS_ ?_) | (refine VC.drawm (id := 6) [(0, 0), (1, 0), (2, 3), (3, 7), (4, 0), (5, 0), (6, 48), (7, 112), (8, 255)] [] (by rfl) (by kernel_rfl) (by rfl) ?_) | (refine VC.litT (by rfl) LTR_ ?_) | (refine DD_ ?_) | (refine VC.cond (by rfl) (fun hb => ?_) (fun hb => ?_) <;> (fail_if_success (with_reducible have := litT_ hb)) <;> (fail_if_success (with_reducible have := litF_ hb)) <;> (try simp only [HB_] at hb) <;> (try (exfalso; first | omega | (cases hb; done)))) | fail)
      · rw [decide_eq_false (fun e : A = B => by subst e; omega)]
        (refine retC_mk ([(4, .bool false)]) ([]) 0 (Sim.less [] (by rfl) R_ R_) (retQ_ok (by rfl) ([]) (fun i av h => h) ⟨?_, ?_⟩)) <;> rfl
      · refine ⟨k + 1, ⟨by omega, fun j hj => ?_⟩, by omega, by exact (Sim.less [] (by rfl) R_ R_)⟩
        rcases Nat.lt_or_ge j k with h | h
        · exact hall j h
        · obtain rfl : j = k := by omega
          omega
    · repeat' (first | (refine SS_ ?_) | (refine VC.litF (by rfl) LFA_ ?_) | fail)
      have e : A = B := List.ext_getElem hlen fun j h1 h2 => by
        have := hall j (by omega)
        rw [List.getD_eq_getElem?_getD, List.getElem?_eq_getElem h1, List.getD_eq_getElem?_getD, List.getElem?_eq_getElem h2] at this
        exact this
      rw [decide_eq_true e]
      (refine retC_mk ([(4, .bool true)]) ([]) 0 (Sim.less [] (by rfl) R_ R_) (retQ_ok (by rfl) ([]) (fun i av h => h) ⟨?_, ?_⟩)) <;> rfl
  · have hne : A ≠ B := fun e => hlen (by rw [e])
    rw [decide_eq_false hne]
    refine Ok.of_vcC tt_ok Tryd.func13 rfl rfl (by show 2 ≤ _; decide) 0 (hlt_ok (by rfl)) fun c0 => ?_
    repeat' (first | (refine SS_ ?_) | (refine VC.litT (by rfl) LTR_ ?_) | fail)
    (refine retC_mk ([(4, .bool false)]) ([]) 0 (Sim.less [] (by rfl) R_ R_) (retQ_ok (by rfl) ([]) (fun i av h => h) ⟨?_, ?_⟩)) <;> rfl
theorem own_ok (S : List Int) (R : List Row) (hR : R.length ≤ 1048576) : Ok Tryd.prog 5 [] [] (.pair (tabV S R) .nul) (fun r h' => r = tabV S R ∧ h' = []) := by
  refine Ok.of_vcC tt_ok Tryd.func5 rfl rfl (by show 1 ≤ _; decide) 0 (hlt_ok (by rfl)) fun c0 => ?_
  repeat' (first | (refine SS_ ?_) | fail)
  refine VC.conv (Sim.ghostF 2 1 2 (fun i => rowA (([] : List Row).getD i rowZ)) (by rfl) (by rfl) (by rfl)) ?_
  refine VC.loop (fun k : Nat => ⟨[(4, .int .i64 (k : Nat)), (3, .ptr 2 []), (2, .ptr 1 []), (1, .ptr 0 [])], [(0, tabV S R), (1, .pair nilS (.pair nilS .nul)), (2, .pair (liV S) (.pair (.sl 3 [] 2 0 (R.take k).length) .nul)), (3, rowsO (R.take k))], [], 4⟩) (fun k => k ≤ R.length) (fun k => R.length - k) 0 (by omega) (by
    (refine Sim.less [] (by rfl) ?_ ?_ <;> (repeat' (first | (exact EnvLe.nil) | (exact HeapLe.nil) | (with_reducible apply EnvLe.cons) | (with_reducible apply HeapLe.cons) | ((with_reducible refine RelA.int ?_; first | (refine Keep.mk ?_; first | with_reducible rfl | omega | decide) | skip)) | (exact rfl) | (exact ⟨rfl, rfl⟩) | ((with_reducible refine RelA.rsl ?_; intro i hi)) | (with_reducible refine RelA.pair ?_ ?_) | ((refine RelA.rsl ?_; intro i hi)) | ((refine RelA.arr ?_; intro i hi)) | (refine RelA.pair ?_ ?_) | fail)) <;> (try with_reducible refine Keep.mk ?_))
    all_goals rfl) fun k hk => ?_
  by_cases hkl : k < R.length
  · have htl : (R.take k).length = k := by rw [List.length_take]; omega
    have hts : R.take (k + 1) = R.take k ++ [R.getD k rowZ] := take_snoc hkl
    have hkk : (k : Int).toNat = k := Int.toNat_natCast k
    generalize hT : R.take (k + 1) = T2 at *
    generalize R.take k = T at *
    repeat' (first | (refine SS_ ?_) | (refine VC.drawm (id := 5) [(0, 0), (1, 1), (2, 0), (3, 4), (4, 0), (5, 28), (6, 60), (7, 124), (8, 0), (9, 256), (10, 0), (11, 1792), (12, 3840), (13, 7936), (14, 16380), (15, 32764)] [16, 17, 18] (by rfl) (by kernel_rfl) (by rfl) ?_) | (refine VC.litT (by rfl) LTR_ ?_) | (refine DD_ ?_) | fail)
    refine ⟨k + 1, by omega, by omega, ?_⟩
    rw [hT, hts]
    show ∀ a_1 w, _ → Sim _ ⟨[(4, .int .i64 ((k + 1 : Nat) : Int)), (3, .ptr 2 []), (2, .ptr 1 []), (1, .ptr 0 [])], [(0, tabV S R), (1, .pair nilS (.pair nilS .nul)), (2, .pair (liV S) (.pair (.sl 3 [] 2 0 (T ++ [R.getD k rowZ]).length) .nul)), (3, .arr (T ++ [R.getD k rowZ]).length 2 (fun i => rowA ((T ++ [R.getD k rowZ]).getD i rowZ)))], [], 4⟩ a_1 w
    rw [List.length_append, List.length_singleton]
    (refine Sim.less [(3, 5)] (by rfl) ?_ ?_ <;> (repeat' (first | (exact EnvLe.nil) | (exact HeapLe.nil) | (with_reducible apply EnvLe.cons) | (with_reducible apply HeapLe.cons) | ((with_reducible refine RelA.int ?_; first | (refine Keep.mk ?_; first | with_reducible rfl | omega | decide) | skip)) | (exact rfl) | (exact ⟨rfl, rfl⟩) | ((with_reducible refine RelA.rsl ?_; intro i hi)) | (with_reducible refine RelA.pair ?_ ?_) | ((refine RelA.arr ?_; intro i hi)) | fail)) <;> (try with_reducible refine Keep.mk ?_))
    rw [← hkk]
    exact rel_snocG (G := rowA) (fun e => NI_) hi
  · obtain rfl : k = R.length := by omega
    rw [List.take_length]
    repeat' (first | (refine SS_ ?_) | (refine VC.litF (by rfl) LFA_ ?_) | fail)
    refine retC_conv' (Sim.stillN (e' := [(2, .ptr 1 [])]) (h' := [(1, tabV S R)]) [3] (by rfl) (HeapN.cons (by rfl) (.pair (.rel (NoId.self NI_)) (.pair (viewN_rows (by rfl) rfl rfl) (.rel (NoId.self NI_)))) (by rfl) HeapN.nil) (EnvN.cons (by rfl) (.rel R_) EnvN.nil)) ?_
    exact retC_mk [(2, .ptr 1 [])] [(1, tabV S R)] 4 (Sim.less [] (by rfl) R_ R_) (retQ_ok (by rfl) [] nil_sub ⟨rfl, rfl⟩)
end Go.Proofs.YtdbebdjnpckfdaaDoor

namespace Go.Rl
open Go.V Go.Lx
def liR : List Row := [⟨7, [0]⟩, ⟨3, [0]⟩]
theorem li_ok : okE ⟨[2], liR⟩ = 0 := by decide
theorem li_pers : pers ⟨[2], liR⟩ = [3, 7] := by
  unfold pers
  rw [if_pos li_ok]
  show srt [7, 3] = [3, 7]
  unfold srt
  simp [List.mergeSort, List.MergeSort.Internal.splitInTwo, List.merge]
theorem li_wo : (liR.filter fun r => !decide (r.p = 7)) = [⟨3, [0]⟩] := by decide
theorem li_w1 : weightE ⟨[2], liR⟩ 0 12 [2, 0] = 0 ∧ weightL ⟨[2], liR⟩ 0 12 [2, 0] = [68719476736, 68719476736] := by decide
theorem li_w2 : weightE ⟨[2], liR⟩ 0 12 [3, 0] = 5 ∧ weightL ⟨[2], liR⟩ 0 12 [3, 0] = [] := by decide
theorem li_w3 : weightE ⟨[2], liR⟩ 0 1 [37, 0] = 0 := by decide
end Go.Rl
namespace Go.Proofs.YtdbebdjnpckfdaaDoor
open Go.V Go.RowKit Go.L Go.Lx Go.Rl
set_option maxRecDepth 10000
set_option maxHeartbeats 4000000
theorem two_or {i : Nat} (h : i < 2) : i = 0 ∨ i = 1 := by omega
theorem rlives_ok : Ok Tryd.prog 15 [] [] .nul (fun r h' => r = .bool true ∧ h' = []) := by
  have hV : ∀ k, (liR.getD k rowZ).V.length ≤ 4611686018427387904 := fun k => by
    rcases k with _ | _ | k
    · decide
    · decide
    · show ([] : List Int).length ≤ _; decide
  have w1 := rweight_ok [2] liR 0 12 [2, 0] (by decide) (by decide) (by decide) hV
  rw [li_w1.1, li_w1.2] at w1
  have w2 := rweight_ok [2] liR 0 12 [3, 0] (by decide) (by decide) (by decide) hV
  rw [li_w2.1, li_w2.2] at w2
  have w3 := rweight_ok [2] liR 0 1 [37, 0] (by decide) (by decide) (by decide) hV
  rw [li_w3] at w3
  generalize weightL ⟨[2], liR⟩ 0 1 [37, 0] = L3 at *
  have p1 := persons_ok [2] liR (by decide) (by decide) hV
  rw [li_pers] at p1
  have o1 := without_ok [2] liR (by decide) 7
  rw [show woR liR 7 = [⟨3, [0]⟩] from li_wo] at o1
  have s1 := lSame_ok [68719476736, 68719476736] [68719476736, 68719476736] (by decide) (by decide)
  rw [decide_eq_true rfl] at s1
  have s2 := lSame_ok [3, 7] [3, 7] (by decide) (by decide)
  rw [decide_eq_true rfl] at s2
  refine Ok.of_vcC tt_ok Tryd.func15 rfl rfl (by show 0 ≤ _; decide) 0 (hlt_ok (by rfl)) fun c0 => ?_
  repeat' (first | (refine SS_ ?_) | fail)
  refine Seq.conv (s' := ⟨[(17, .sl 5 [] 1 0 2), (16, .pair (.sl 0 [] 1 0 1) (.pair (.sl 3 [] 2 0 2) .nul)), (1, .ptr 4 [])], [(0, liO [2]), (1, liO [0]), (2, liO [0]), (3, .arr 2 2 (fun i => bif Nat.beq i 0 then .pair (.int .i64 7) (.pair (.sl 1 [] 1 0 1) .nul) else .pair (.int .i64 3) (.pair (.sl 2 [] 1 0 1) .nul))), (4, .pair (.sl 0 [] 1 0 1) (.pair (.sl 3 [] 2 0 2) .nul)), (5, liO [2, 0])], [], 6⟩) (by
    (refine Sim.less [] (by rfl) ?_ ?_ <;> (repeat' (first | (exact EnvLe.nil) | (exact HeapLe.nil) | (with_reducible apply EnvLe.cons) | (with_reducible apply HeapLe.cons) | (exact rfl) | (exact ⟨rfl, rfl⟩) | (with_reducible refine RelA.pair ?_ ?_) | ((refine RelA.arr ?_; intro i hi)) | (refine RelA.pair ?_ ?_) | fail)) <;> (try with_reducible refine Keep.mk ?_))
    all_goals ((try simp only [List.length_cons, List.length_nil] at hi); rcases (by omega : i = 0 ∨ i = 1) with rfl | rfl <;> first | exact rfl | exact R_ | omega)) ?_
  refine Seq.conv (Sim.stillN (e' := [(17, liV [2, 0]), (16, .pair (liV [2]) (.pair (.sl 3 [] 2 0 2) .nul)), (1, .ptr 4 [])]) (h' := [(3, rowsO liR), (4, .pair (liV [2]) (.pair (.sl 3 [] 2 0 2) .nul))]) [0, 1, 2, 5] (by rfl) (HeapN.cons (by rfl) (.arr rfl fun i hi => by
    rcases two_or hi with rfl | rfl
    · exact .pair (.rel R_) (.pair (viewN_li' (by rfl) rfl rfl) (.rel R_))
    · exact .pair (.rel R_) (.pair (viewN_li' (by rfl) rfl rfl) (.rel R_))) (by rfl) (HeapN.cons (by rfl) (.pair (viewN_li' (by rfl) rfl rfl) (.rel R_)) (by rfl) HeapN.nil)) (EnvN.cons (by rfl) (viewN_li' (by rfl) rfl rfl) (EnvN.cons (by rfl) (.pair (viewN_li' (by rfl) rfl rfl) (.rel R_)) (EnvN.cons (by rfl) (.rel R_) EnvN.nil)))) ?_
  refine Seq.conv (Sim.stillN (e' := [(17, liV [2, 0]), (16, tabV [2] liR), (1, .ptr 4 [])]) (h' := [(4, tabV [2] liR)]) [3] (by rfl) (HeapN.cons (by rfl) (.pair (.rel R_) (.pair (viewN_rows (by rfl) rfl rfl) (.rel R_))) (by rfl) HeapN.nil) (EnvN.cons (by rfl) (.rel R_) (EnvN.cons (by rfl) (.pair (.rel R_) (.pair (viewN_rows (by rfl) rfl rfl) (.rel R_))) (EnvN.cons (by rfl) (.rel R_) EnvN.nil)))) ?_
  repeat' (first | (refine SS_ ?_) | (refine Seq.callp false (w1) Tryd.func14 GOk.nil subG.nil (by rfl) (by rfl) rfl rfl rfl rfl rfl (by rfl) rfl VW_ NI_ NI_ FR_ ?_) | fail)
  refine Seq.conv (s' := ⟨[(23, .sl 6 [] 1 0 2), (22, tabV [2] liR), (2, liV [68719476736, 68719476736]), (3, .int .i64 0), (1, .ptr 4 [])], [(6, liO [3, 0]), (4, tabV [2] liR)], [], 7⟩) (by
    (refine Sim.less [] (by rfl) ?_ ?_ <;> (repeat' (first | (exact EnvLe.nil) | (exact HeapLe.nil) | (with_reducible apply EnvLe.cons) | (with_reducible apply HeapLe.cons) | ((with_reducible refine RelA.int ?_; first | (refine Keep.mk ?_; first | with_reducible rfl | omega | decide) | skip)) | (exact rfl) | (exact ⟨rfl, rfl⟩) | ((with_reducible refine RelA.rsl ?_; intro i hi)) | (with_reducible refine RelA.pair ?_ ?_) | ((refine RelA.arr ?_; intro i hi)) | fail)) <;> (try with_reducible refine Keep.mk ?_))
    all_goals ((try simp only [List.length_cons, List.length_nil] at hi); rcases (by omega : i = 0 ∨ i = 1) with rfl | rfl <;> exact rfl)) ?_
  refine Seq.conv (Sim.stillN (e' := [(23, liV [3, 0]), (22, tabV [2] liR), (2, liV [68719476736, 68719476736]), (3, .int .i64 0), (1, .ptr 4 [])]) (h' := [(4, tabV [2] liR)]) [6] (by rfl) (by repeat' (first | exact HeapN.nil | refine HeapN.cons (by rfl) (.rel R_) (by rfl) ?_)) (EnvN.cons (by rfl) (viewN_li' (by rfl) rfl rfl) (by repeat' (first | exact EnvN.nil | refine EnvN.cons (by rfl) (.rel R_) ?_)))) ?_
  repeat' (first | (refine SS_ ?_) | (refine Seq.callp false (w2) Tryd.func14 GOk.nil subG.nil (by rfl) (by rfl) rfl rfl rfl rfl rfl (by rfl) rfl VW_ NI_ NI_ FR_ ?_) | fail)
  refine Seq.conv (s' := ⟨[(29, .sl 7 [] 1 0 2), (28, tabV [2] liR), (2, liV [68719476736, 68719476736]), (3, .int .i64 0), (5, .int .i64 5), (1, .ptr 4 [])], [(7, liO [37, 0]), (4, tabV [2] liR)], [], 8⟩) (by
    (refine Sim.less [] (by rfl) ?_ ?_ <;> (repeat' (first | (exact EnvLe.nil) | (exact HeapLe.nil) | (with_reducible apply EnvLe.cons) | (with_reducible apply HeapLe.cons) | ((with_reducible refine RelA.int ?_; first | (refine Keep.mk ?_; first | with_reducible rfl | omega | decide) | skip)) | (exact rfl) | (exact ⟨rfl, rfl⟩) | ((with_reducible refine RelA.rsl ?_; intro i hi)) | (with_reducible refine RelA.pair ?_ ?_) | ((refine RelA.arr ?_; intro i hi)) | fail)) <;> (try with_reducible refine Keep.mk ?_))
    all_goals ((try simp only [List.length_cons, List.length_nil] at hi); rcases (by omega : i = 0 ∨ i = 1) with rfl | rfl <;> exact rfl)) ?_
  refine Seq.conv (Sim.stillN (e' := [(29, liV [37, 0]), (28, tabV [2] liR), (2, liV [68719476736, 68719476736]), (3, .int .i64 0), (5, .int .i64 5), (1, .ptr 4 [])]) (h' := [(4, tabV [2] liR)]) [7] (by rfl) (by repeat' (first | exact HeapN.nil | refine HeapN.cons (by rfl) (.rel R_) (by rfl) ?_)) (EnvN.cons (by rfl) (viewN_li' (by rfl) rfl rfl) (by repeat' (first | exact EnvN.nil | refine EnvN.cons (by rfl) (.rel R_) ?_)))) ?_
  repeat' (first | (refine SS_ ?_) | (refine Seq.callp false (w3) Tryd.func14 GOk.nil subG.nil (by rfl) (by rfl) rfl rfl rfl rfl rfl (by rfl) rfl VW_ NI_ NI_ FR_ ?_) | (refine Seq.lit (by rfl) (by rfl) LT2_ ?_) | fail)
  refine Seq.conv (s' := ⟨[(45, .sl 8 [] 1 0 2), (44, liV [68719476736, 68719476736]), (43, .bool true), (1, .ptr 4 [])], [(8, liO [68719476736, 68719476736]), (4, tabV [2] liR)], [], 9⟩) (by
    (refine Sim.less [] (by rfl) ?_ ?_ <;> (repeat' (first | (exact EnvLe.nil) | (exact HeapLe.nil) | (with_reducible apply EnvLe.cons) | (with_reducible apply HeapLe.cons) | ((with_reducible refine RelA.int ?_; first | (refine Keep.mk ?_; first | with_reducible rfl | omega | decide) | skip)) | (exact rfl) | (exact ⟨rfl, rfl⟩) | ((with_reducible refine RelA.rsl ?_; intro i hi)) | (with_reducible refine RelA.pair ?_ ?_) | ((refine RelA.arr ?_; intro i hi)) | fail)) <;> (try with_reducible refine Keep.mk ?_))
    all_goals ((try simp only [List.length_cons, List.length_nil] at hi); rcases (by omega : i = 0 ∨ i = 1) with rfl | rfl <;> exact rfl)) ?_
  refine Seq.conv (Sim.stillN (e' := [(45, liV [68719476736, 68719476736]), (44, liV [68719476736, 68719476736]), (43, .bool true), (1, .ptr 4 [])]) (h' := [(4, tabV [2] liR)]) [8] (by rfl) (by repeat' (first | exact HeapN.nil | refine HeapN.cons (by rfl) (.rel R_) (by rfl) ?_)) (EnvN.cons (by rfl) (viewN_li' (by rfl) rfl rfl) (by repeat' (first | exact EnvN.nil | refine EnvN.cons (by rfl) (.rel R_) ?_)))) ?_
  repeat' (first | (refine SS_ ?_) | (refine Seq.callp false (s1) Tryd.func13 GOk.nil subG.nil (by rfl) (by rfl) rfl rfl rfl rfl rfl (by rfl) rfl VW_ NI_ NI_ FR_ ?_) | (refine Seq.callp false (p1) Tryd.func30 GOk.nil subG.nil (by rfl) (by rfl) rfl rfl rfl rfl rfl (by rfl) rfl VW_ NI_ NI_ FR_ ?_) | fail)
  refine Seq.conv (s' := ⟨[(51, .sl 9 [] 1 0 2), (50, liV [3, 7]), (48, .bool true), (1, .ptr 4 [])], [(9, liO [3, 7]), (4, tabV [2] liR)], [], 10⟩) (by
    (refine Sim.less [] (by rfl) ?_ ?_ <;> (repeat' (first | (exact EnvLe.nil) | (exact HeapLe.nil) | (with_reducible apply EnvLe.cons) | (with_reducible apply HeapLe.cons) | ((with_reducible refine RelA.int ?_; first | (refine Keep.mk ?_; first | with_reducible rfl | omega | decide) | skip)) | (exact rfl) | (exact ⟨rfl, rfl⟩) | ((with_reducible refine RelA.rsl ?_; intro i hi)) | (with_reducible refine RelA.pair ?_ ?_) | ((refine RelA.arr ?_; intro i hi)) | fail)) <;> (try with_reducible refine Keep.mk ?_))
    all_goals ((try simp only [List.length_cons, List.length_nil] at hi); rcases (by omega : i = 0 ∨ i = 1) with rfl | rfl <;> exact rfl)) ?_
  refine Seq.conv (Sim.stillN (e' := [(51, liV [3, 7]), (50, liV [3, 7]), (48, .bool true), (1, .ptr 4 [])]) (h' := [(4, tabV [2] liR)]) [9] (by rfl) (by repeat' (first | exact HeapN.nil | refine HeapN.cons (by rfl) (.rel R_) (by rfl) ?_)) (EnvN.cons (by rfl) (viewN_li' (by rfl) rfl rfl) (by repeat' (first | exact EnvN.nil | refine EnvN.cons (by rfl) (.rel R_) ?_)))) ?_
  repeat' (first | (refine SS_ ?_) | (refine Seq.callp false (s2) Tryd.func13 GOk.nil subG.nil (by rfl) (by rfl) rfl rfl rfl rfl rfl (by rfl) rfl VW_ NI_ NI_ FR_ ?_) | (refine Seq.callp false (o1) Tryd.func35 GOk.nil subG.nil (by rfl) (by rfl) rfl rfl rfl rfl rfl (by rfl) rfl VW_ NI_ NI_ FR_ ?_) | fail)
  (refine retC_mk ([(0, .bool true)]) ([]) 10 (Sim.less [] (by rfl) R_ R_) (retQ_ok (by rfl) ([]) (fun i av h => h) ⟨?_, ?_⟩)) <;> rfl
end Go.Proofs.YtdbebdjnpckfdaaDoor
