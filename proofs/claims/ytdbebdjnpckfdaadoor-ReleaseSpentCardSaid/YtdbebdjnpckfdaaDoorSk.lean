/- Tables of private originals: Valid. The contracts of slices.Sorted and maps.Keys at this translation: a table of numbers and its facts each (written by the kit's tool). -/
import Derived.Test.YtdbebdjnpckfdaaDoorQa
import Derived.Test.YtdbebdjnpckfdaaDoorFr
import Derived.Shelf.SlIterI.Nil
import Derived.Shelf.SortM.Plain
import Derived.Shelf.SortM.SortNone
import Derived.Test.YtdbebdjnpckfdaaDoorProg
set_option linter.unusedSimpArgs false
set_option linter.unusedVariables false
namespace Go.Proofs.YtdbebdjnpckfdaaDoor
open Go.V Go.RowKit Go.L Go.Lx Go.Rl
set_option maxRecDepth 10000
set_option maxHeartbeats 4000000
abbrev rowA (r : Row) : AV := .pair (.int .i64 r.p) (.pair (liV r.V) .nul)
abbrev rowsV (R : List Row) : AV := .rsl false R.length 2 (fun i => rowA (R.getD i rowZ))
abbrev rowsO (R : List Row) : AV := .arr R.length 2 (fun i => rowA (R.getD i rowZ))
abbrev tabV (S : List Int) (R : List Row) : AV := .pair (liV S) (.pair (rowsV R) .nul)
def kI (n : Int) : AV := .int .i64 n
def kvQ (n : Int) : Value := .int .i64 n
def vB (b : Bool) : AV := .bool b
theorem u_intT : Tryd.prog.underlying 3 = some (.int .i64) := by kernel_rfl
theorem u_saw : Tryd.prog.underlying 112 = some (.map 3 4) := by kernel_rfl
theorem keyT : KeyK Tryd.prog 3 kI kvQ := key_int u_intT
/-- A set of numbers, as a map. -/
def sawA (l : List Int) : AV := moL kI vB (0, false) (l.map fun x => (x, true))
theorem saw_set {R : List Int} {x : Int} : mSet (R.map fun x => (x, true)) x true = (if x ∈ R then R else R ++ [x]).map fun x => (x, true) := by
  induction R with
  | nil => rfl
  | cons a r ih =>
    show (if a = x then (x, true) :: r.map (fun x => (x, true)) else (a, true) :: mSet (r.map fun x => (x, true)) x true) = _
    by_cases h : a = x
    · subst h; rw [if_pos rfl, if_pos List.mem_cons_self]; rfl
    · rw [if_neg h, ih]
      by_cases h2 : x ∈ r
      · rw [if_pos h2, if_pos (List.mem_cons_of_mem _ h2)]; rfl
      · rw [if_neg h2, if_neg (by simp [h2, Ne.symm h])]; rfl
abbrev v1F : AV := .fn (.func 59) .nul .nul
theorem v1_ok (x : Int) : Ok Tryd.prog 59 [] [] (.pair (.int .i64 x) .nul) (fun v h' => v = .bool (decide (x < 1 ∨ 12 < x)) ∧ h' = []) := by
  by_cases h : x < 1
  · rw [decide_eq_true (Or.inl h)]
    refine Ok.of_vcC tt_ok Tryd.func59 rfl rfl (by show 1 ≤ _; decide) 0 (hlt_ok (by rfl)) fun c0 => ?_
    repeat' (first | (refine SS_ ?_) | (refine Seq.lit (by rfl) (by rfl) LT2_ ?_) | fail)
    (refine retC_mk ([(2, .bool true)]) ([]) 0 (Sim.less [] (by rfl) R_ R_) (retQ_ok (by rfl) ([]) (fun i av h => h) ⟨?_, ?_⟩)) <;> rfl
  · rw [show decide (x < 1 ∨ 12 < x) = decide (12 < x) by simp [h]]
    refine Ok.of_vcC tt_ok Tryd.func59 rfl rfl (by show 1 ≤ _; decide) 0 (hlt_ok (by rfl)) fun c0 => ?_
    repeat' (first | (refine SS_ ?_) | (refine Seq.lit (by rfl) (by rfl) LT2_ ?_) | fail)
    (refine retC_mk ([(2, .bool (decide (12 < x)))]) ([]) 0 (Sim.less [] (by rfl) R_ R_) (retQ_ok (by rfl) ([]) (fun i av h => h) ⟨?_, ?_⟩)) <;> rfl
theorem idxS_ok (l : List Int) (hl : l.length ≤ 9223372036854775807) : Ok Tryd.prog 39 [] [] (.pair (liV l) (.pair v1F .nul)) (fun r h' => r = .int .i64 (idx (fun x => decide (x < 1 ∨ 12 < x)) 0 l) ∧ h' = []) := by
  refine Ok.of_vcC tt_ok Tryd.func39 rfl rfl (by show 2 ≤ _; decide) 0 (hlt_ok (by rfl)) fun c0 => ?_
  repeat' (first | (refine SS_ ?_) | fail)
  refine VC.loop (fun k : Nat => ⟨[(8, .int .i64 (k : Nat)), (7, .int .i64 l.length), (1, v1F), (0, liV l)], [], [], 0⟩) (fun k => k ≤ l.length ∧ idx (fun x => decide (x < 1 ∨ 12 < x)) 0 l = idx (fun x => decide (x < 1 ∨ 12 < x)) k (l.drop k)) (fun k => l.length - k) 0 ⟨by omega, rfl⟩ (Sim.less [] (by rfl) R_ R_) fun k hk => ?_
  obtain ⟨hk, hi⟩ := hk
  by_cases hkl : k < l.length
  · have hget : l.getD ((k : Nat) : Int).toNat 0 = l.getD k 0 := by rw [Int.toNat_natCast]
    rw [idx_step (d := 0) hkl] at hi
    have c1 := v1_ok (l.getD k 0)
    rw [← hget] at c1 hi
    generalize hv : l.getD ((k : Nat) : Int).toNat 0 = v at *
    generalize hqq : decide (v < 1 ∨ 12 < v) = qq at *
    repeat' (first | (refine SS_ ?_) | (refine Seq.callp false (c1) Tryd.func59 GOk.nil subG.nil (by rfl) (by rfl) rfl rfl rfl rfl rfl (by rfl) rfl VW_ NI_ NI_ FR_ ?_) | (refine VC.litT (by rfl) LTR_ ?_) | (refine VC.cond (by rfl) (fun hb => ?_) (fun hb => ?_) <;> (fail_if_success (with_reducible have := litT_ hb)) <;> (fail_if_success (with_reducible have := litF_ hb)) <;> (try simp only [HB_] at hb) <;> (try (exfalso; first | omega | (cases hb; done)))) | fail)
    · rw [if_pos (by simpa using hb)] at hi
      rw [hi]
      (refine retC_mk ([(4, .int .i64 (k : Nat))]) ([]) 0 (Sim.less [] (by rfl) R_ R_) (retQ_ok (by rfl) ([]) (fun i av h => h) ⟨?_, ?_⟩)) <;> rfl
    · rw [if_neg (by simpa using hb)] at hi
      refine ⟨k + 1, ⟨by omega, hi⟩, by omega, ?_⟩
      exact (Sim.less [] (by rfl) R_ R_)
  · repeat' (first | (refine SS_ ?_) | (refine VC.litF (by rfl) LFA_ ?_) | fail)
    rw [List.drop_of_length_le (by omega)] at hi
    rw [hi]
    (refine retC_mk ([(4, .int .i64 (-1))]) ([]) 0 (Sim.less [] (by rfl) R_ R_) (retQ_ok (by rfl) ([]) (fun i av h => h) ⟨?_, ?_⟩)) <;> rfl
theorem conS_ok (l : List Int) (hl : l.length ≤ 9223372036854775807) : Ok Tryd.prog 21 [] [] (.pair (liV l) (.pair v1F .nul)) (fun r h' => r = .bool (badS l) ∧ h' = []) := by
  have c1 := idxS_ok l hl
  rw [show badS l = decide (0 ≤ idx (fun x => decide (x < 1 ∨ 12 < x)) 0 l) by rw [idx_any]; rfl]
  generalize idx (fun x => decide (x < 1 ∨ 12 < x)) 0 l = m at *
  refine Ok.of_vcC tt_ok Tryd.func21 rfl rfl (by show 2 ≤ _; decide) 0 (hlt_ok (by rfl)) fun c0 => ?_
  repeat' (first | (refine SS_ ?_) | (refine Seq.callp false (c1) Tryd.func39 GOk.nil subG.nil (by rfl) (by rfl) rfl rfl rfl rfl rfl (by rfl) rfl VW_ NI_ NI_ FR_ ?_) | fail)
  (refine retC_mk ([(4, .bool (decide (0 ≤ m)))]) ([]) 0 (Sim.less [] (by rfl) R_ R_) (retQ_ok (by rfl) ([]) (fun i av h => h) ⟨?_, ?_⟩)) <;> rfl
theorem valid_ok (S : List Int) (R : List Row) (hS : S.length ≤ 4611686018427387904) (hR : R.length ≤ 4611686018427387904) (hV : ∀ k, (R.getD k rowZ).V.length ≤ 4611686018427387904) : Ok Tryd.prog 41 [] [] (.pair (tabV S R) .nul) (fun r h' => r = .int .i64 (okE ⟨S, R⟩) ∧ h' = []) := by
  have c1 := conS_ok S (by omega)
  by_cases h1 : 8 < S.length ∨ 64 < R.length
  · rw [okE_lim h1]
    refine Ok.of_vcC tt_ok Tryd.func41 rfl rfl (by show 1 ≤ _; decide) 0 (hlt_ok (by rfl)) fun c0 => ?_
    repeat' (first | (refine SS_ ?_) | (refine VC.litT (by rfl) LTR_ ?_) | (refine Seq.litC (by rfl) (by rfl) (fun hb => ?_) (fun hb => ?_) <;> (fail_if_success (with_reducible have := litT_ hb)) <;> (fail_if_success (with_reducible have := litF_ hb)) <;> (try simp only [HB_] at hb) <;> (try (exfalso; first | omega | (cases hb; done)))) | fail)
    all_goals (refine retC_mk ([(2, .int .i64 4)]) ([]) 1 (Sim.less [] (by rfl) R_ R_) (retQ_ok (by rfl) ([]) (fun i av h => h) ⟨?_, ?_⟩)) <;> rfl
  by_cases h2 : badS S = true
  · rw [okE_arg h1 (.inl h2)]
    rw [h2] at c1
    refine Ok.of_vcC tt_ok Tryd.func41 rfl rfl (by show 1 ≤ _; decide) 0 (hlt_ok (by rfl)) fun c0 => ?_
    repeat' (first | (refine SS_ ?_) | (refine Seq.callp false (c1) Tryd.func21 GOk.nil subG.nil (by rfl) (by rfl) rfl rfl rfl rfl rfl (by rfl) rfl VW_ NI_ NI_ FR_ ?_) | (refine Seq.lit (by rfl) (by rfl) LT2_ ?_) | (refine VC.litT (by rfl) LTR_ ?_) | (refine VC.litF (by rfl) LFA_ ?_) | fail)
    (refine retC_mk ([(2, .int .i64 1)]) ([]) 1 (Sim.less [] (by rfl) R_ R_) (retQ_ok (by rfl) ([]) (fun i av h => h) ⟨?_, ?_⟩)) <;> rfl
  have h2 : badS S = false := by simpa using h2
  rw [h2] at c1
  have hbad : ∀ k, k < R.length → badR S (R.getD k rowZ) = true → okE ⟨S, R⟩ = 1 := fun k hk hb => okE_arg h1 (.inr ((any_getD (d := rowZ)).2 ⟨k, hk, hb⟩))
  have hgood : (∀ k, k < R.length → badR S (R.getD k rowZ) = false) → okE ⟨S, R⟩ = if (ps R).Nodup then 0 else 7 := fun h => okE_two h1 h2 h
  generalize okE ⟨S, R⟩ = E at *
  refine Ok.of_vcC tt_ok Tryd.func41 rfl rfl (by show 1 ≤ _; decide) 0 (hlt_ok (by rfl)) fun c0 => ?_
  repeat' (first | (refine SS_ ?_) | (refine Seq.callp false (c1) Tryd.func21 GOk.nil subG.nil (by rfl) (by rfl) rfl rfl rfl rfl rfl (by rfl) rfl VW_ NI_ NI_ FR_ ?_) | (refine Seq.lit (by rfl) (by rfl) LT2_ ?_) | (refine VC.litF (by rfl) LFA_ ?_) | fail)
  refine VC.loop (fun k : Nat => ⟨[(25, .int .i64 (k : Nat)), (24, .int .i64 R.length), (23, rowsV R), (3, .mp 1), (1, .ptr 0 [])], [(0, tabV S R), (1, sawA (sTo (ps R) k))], [], 2⟩) (fun k => k ≤ R.length ∧ ∀ j, j < k → badR S (R.getD j rowZ) = false) (fun k => R.length - k) 0 ⟨by omega, fun j hj => absurd hj (Nat.not_lt_zero j)⟩ (by
    (refine Sim.less [] (by rfl) ?_ ?_ <;> (repeat' (first | (exact EnvLe.nil) | (exact HeapLe.nil) | (with_reducible apply EnvLe.cons) | (with_reducible apply HeapLe.cons) | ((with_reducible refine RelA.int ?_; first | (refine Keep.mk ?_; first | with_reducible rfl | omega | decide) | skip)) | (exact rfl) | (exact ⟨rfl, rfl⟩) | ((with_reducible refine RelA.rsl ?_; intro i hi)) | (with_reducible refine RelA.pair ?_ ?_) | fail)) <;> (try with_reducible refine Keep.mk ?_))
    exact ⟨_, _, rfl, fun i hi => absurd hi (Nat.not_lt_zero i)⟩) fun k hk => ?_
  obtain ⟨hk, hgo⟩ := hk
  by_cases hkl : k < R.length
  · have hko : R.getD ((k : Nat) : Int).toNat rowZ = R.getD k rowZ := by rw [Int.toNat_natCast]
    have hsT : sTo (ps R) (k + 1) = if (R.getD k rowZ).p ∈ sTo (ps R) k then sTo (ps R) k else sTo (ps R) k ++ [(R.getD k rowZ).p] := by rw [sTo, ps_get]
    have hbad := hbad k hkl
    have hVk := hV k
    have hstep : badR S (R.getD k rowZ) = false → ∀ j, j < k + 1 → badR S (R.getD j rowZ) = false := fun h j hj => by
      rcases Nat.lt_or_ge j k with h3 | h3
      · exact hgo j h3
      · obtain rfl : j = k := by omega
        exact h
    rw [← hko] at hsT hbad hstep hVk
    generalize hs2 : sTo (ps R) (k + 1) = s2 at *
    generalize sTo (ps R) k = s at *
    clear hgood hgo c1 hko
    by_cases hh : (R.getD ((k : Nat) : Int).toNat rowZ).p < 0 ∨ 65535 < (R.getD ((k : Nat) : Int).toNat rowZ).p ∨ (R.getD ((k : Nat) : Int).toNat rowZ).V.length ≠ S.length
    · have hE := hbad (badR_head hh)
      subst hE
      repeat' (first | (refine SS_ ?_) | (refine VC.litT (by rfl) LTR_ ?_) | (refine Seq.litC (by rfl) (by rfl) (fun hb => ?_) (fun hb => ?_) <;> (fail_if_success (with_reducible have := litT_ hb)) <;> (fail_if_success (with_reducible have := litF_ hb)) <;> (try simp only [HB_] at hb) <;> (try (exfalso; first | omega | (cases hb; done)))) | fail)
      all_goals (refine retC_mk ([(2, .int .i64 1)]) ([]) 3 (Sim.less [] (by rfl) R_ R_) (retQ_ok (by rfl) ([]) (fun i av h => h) ⟨?_, ?_⟩)) <;> rfl
    · rw [badR_tail hh] at hbad hstep
      have hV1 := badV_true (S := S) (V := (R.getD ((k : Nat) : Int).toNat rowZ).V)
      have hV2 := badV_false (S := S) (V := (R.getD ((k : Nat) : Int).toNat rowZ).V)
      repeat' (first | (refine SS_ ?_) | (refine Seq.lit (by rfl) (by rfl) LT2_ ?_) | (refine VC.litT (by rfl) LTR_ ?_) | (refine VC.litF (by rfl) LFA_ ?_) | fail)
      refine VC.loop (fun j : Nat => ⟨[(49, .int .i64 (j : Nat)), (48, .int .i64 (R.getD ((k : Nat) : Int).toNat rowZ).V.length), (47, liV (R.getD ((k : Nat) : Int).toNat rowZ).V), (25, .int .i64 (k : Nat)), (24, .int .i64 R.length), (23, rowsV R), (5, .ptr 2 []), (3, .mp 1), (1, .ptr 0 [])], [(2, rowA (R.getD ((k : Nat) : Int).toNat rowZ)), (0, tabV S R), (1, sawA s)], [], 3⟩) (fun j => j ≤ (R.getD ((k : Nat) : Int).toNat rowZ).V.length ∧ ∀ i, i < j → 0 ≤ (R.getD ((k : Nat) : Int).toNat rowZ).V.getD i 0 ∧ (R.getD ((k : Nat) : Int).toNat rowZ).V.getD i 0 < S.getD i 0) (fun j => (R.getD ((k : Nat) : Int).toNat rowZ).V.length - j) 0 ⟨by omega, fun i hi => absurd hi (Nat.not_lt_zero i)⟩ (Sim.less [] (by rfl) R_ R_) fun j hj => ?_
      obtain ⟨hj, hvj⟩ := hj
      by_cases hjl : j < (R.getD ((k : Nat) : Int).toNat rowZ).V.length
      · have hj0 : (j : Int).toNat = j := Int.toNat_natCast j
        by_cases hbv : (R.getD ((k : Nat) : Int).toNat rowZ).V.getD j 0 < 0 ∨ S.getD j 0 ≤ (R.getD ((k : Nat) : Int).toNat rowZ).V.getD j 0
        · have hE := hbad (hV1.2 ⟨j, hjl, hbv⟩)
          clear hbad hV1 hV2 hstep hvj
          rw [← hj0] at hbv
          subst hE
          repeat' (first | (refine SS_ ?_) | (refine VC.litT (by rfl) LTR_ ?_) | (refine Seq.litC (by rfl) (by rfl) (fun hb => ?_) (fun hb => ?_) <;> (fail_if_success (with_reducible have := litT_ hb)) <;> (fail_if_success (with_reducible have := litF_ hb)) <;> (try simp only [HB_] at hb) <;> (try (exfalso; first | omega | (cases hb; done)))) | fail)
          all_goals (refine retC_mk ([(2, .int .i64 1)]) ([]) 3 (Sim.less [] (by rfl) R_ R_) (retQ_ok (by rfl) ([]) (fun i av h => h) ⟨?_, ?_⟩)) <;> rfl
        · have hvj2 : ∀ i, i < j + 1 → 0 ≤ (R.getD ((k : Nat) : Int).toNat rowZ).V.getD i 0 ∧ (R.getD ((k : Nat) : Int).toNat rowZ).V.getD i 0 < S.getD i 0 := fun i hi => by
            rcases Nat.lt_or_ge i j with h3 | h3
            · exact hvj i h3
            · obtain rfl : i = j := by omega
              omega
          clear hbad hV1 hV2 hstep hvj
          rw [← hj0] at hbv
          repeat' (first | (refine SS_ ?_) | (refine Seq.lit (by rfl) (by rfl) LT2_ ?_) | (refine VC.litT (by rfl) LTR_ ?_) | (refine VC.litF (by rfl) LFA_ ?_) | fail)
          refine ⟨j + 1, ⟨by omega, hvj2⟩, by omega, ?_⟩
          exact (Sim.less [] (by rfl) R_ R_)
      · have hgood := hstep (hV2.2 fun i hi => hvj i (by omega))
        have hset : moL kI vB (0, false) (mSet (s.map fun x => (x, true)) (R.getD ((k : Nat) : Int).toNat rowZ).p true) = sawA s2 := by rw [saw_set, ← hsT]; rfl
        clear hbad hV1 hV2 hstep hvj
        repeat' (first | (refine SS_ ?_) | (refine Seq.eff (mapUpdate_ok (K := kI) (V := vB) (u := true) (l := s.map fun x => (x, true)) (k := (R.getD ((k : Nat) : Int).toNat rowZ).p) u_saw keyT (by rfl) (by rfl) (by rfl) (by rfl)) (by rfl) (by rfl) ?_) | (refine VC.litF (by rfl) LFA_ ?_) | fail)
        refine ⟨k + 1, ⟨by omega, hgood⟩, by omega, ?_⟩
        rw [hs2]
        (refine Sim.less [] (by rfl) ?_ ?_ <;> (repeat' (first | (exact EnvLe.nil) | (exact HeapLe.nil) | (with_reducible apply EnvLe.cons) | (with_reducible apply HeapLe.cons) | ((with_reducible refine RelA.int ?_; first | (refine Keep.mk ?_; first | with_reducible rfl | omega | decide) | skip)) | (exact rfl) | (exact ⟨rfl, rfl⟩) | ((with_reducible refine RelA.rsl ?_; intro i hi)) | (with_reducible refine RelA.pair ?_ ?_) | fail)) <;> (try with_reducible refine Keep.mk ?_))
        rw [hset]; exact NoId.self (a := sawA s2) NI_
  · obtain rfl : k = R.length := by omega
    have hE := hgood hgo
    have hlen := sTo_len (l := ps R) (k := R.length) (by rw [ps_len]; exact Nat.le_refl _)
    have hnd : (ps R).Nodup ↔ dis (ps R) R.length := by rw [nodup_dis, ps_len]
    have hml : ((sTo (ps R) R.length).map fun x => (x, true)).length = (sTo (ps R) R.length).length := List.length_map _
    rw [← hlen.2] at hnd
    have hle := hlen.1
    clear hgood hgo hlen hbad hV
    by_cases hn : (ps R).Nodup
    · rw [if_pos hn] at hE
      have hn := hnd.1 hn
      subst hE
      repeat' (first | (refine SS_ ?_) | (refine VC.litF (by rfl) LFA_ ?_) | fail)
      (refine retC_mk ([(2, .int .i64 0)]) ([]) 2 (Sim.less [] (by rfl) R_ R_) (retQ_ok (by rfl) ([]) (fun i av h => h) ⟨?_, ?_⟩)) <;> rfl
    · rw [if_neg hn] at hE
      have hn : ¬ (sTo (ps R) R.length).length = R.length := fun e => hn (hnd.2 e)
      subst hE
      repeat' (first | (refine SS_ ?_) | (refine VC.litT (by rfl) LTR_ ?_) | (refine VC.litF (by rfl) LFA_ ?_) | fail)
      (refine retC_mk ([(2, .int .i64 7)]) ([]) 2 (Sim.less [] (by rfl) R_ R_) (retQ_ok (by rfl) ([]) (fun i av h => h) ⟨?_, ?_⟩)) <;> rfl
end Go.Proofs.YtdbebdjnpckfdaaDoor

namespace Go.Proofs.YtdbebdjnpckfdaaDoor
open Go.Shelf
def sort49_ren : Go.Shelf.Ren := ⟨fun | 5 => 49 | 8 => 63 | 7 => 62 | 19 => 81 | 20 => 82 | 10 => 72 | 11 => 73 | 12 => 74 | 13 => 75 | 14 => 76 | 15 => 77 | 16 => 78 | 17 => 79 | 18 => 80 | 30 => 84 | 31 => 85 | 32 => 86 | 33 => 87 | 34 => 88 | 35 => 89 | 40 => 92 | n => n, fun | 23 => 22 | 25 => 3 | 3 => 3 | 32 => 117 | 22 => 22 | 0 => 0 | 44 => 133 | 46 => 109 | 4 => 4 | 36 => 126 | 35 => 125 | 41 => 130 | 5 => 5 | 9 => 9 | 53 => 138 | 57 => 142 | 63 => 144 | 64 => 145 | n => n, fun | n => n⟩
theorem sort49 : Go.Proofs.SlLaysM.n5 Tryd.prog sort49_ren := {
  mixed := by kernel_rfl
  f5 := ⟨Tryd.f49.name, by decide, Tryd.func49.trans (congrArg some (by kernel_rfl))⟩
  f7 := ⟨Tryd.f62.name, by decide, Tryd.func62.trans (congrArg some (by kernel_rfl))⟩
  f8 := Tryd.func63.trans (congrArg some (by kernel_rfl))
  f10 := ⟨Tryd.f72.name, by decide, Tryd.func72.trans (congrArg some (by kernel_rfl))⟩
  f11 := ⟨Tryd.f73.name, by decide, Tryd.func73.trans (congrArg some (by kernel_rfl))⟩
  f12 := ⟨Tryd.f74.name, by decide, Tryd.func74.trans (congrArg some (by kernel_rfl))⟩
  f13 := ⟨Tryd.f75.name, by decide, Tryd.func75.trans (congrArg some (by kernel_rfl))⟩
  f14 := ⟨Tryd.f76.name, by decide, Tryd.func76.trans (congrArg some (by kernel_rfl))⟩
  f15 := ⟨Tryd.f77.name, by decide, Tryd.func77.trans (congrArg some (by kernel_rfl))⟩
  f16 := ⟨Tryd.f78.name, by decide, Tryd.func78.trans (congrArg some (by kernel_rfl))⟩
  f17 := ⟨Tryd.f79.name, by decide, Tryd.func79.trans (congrArg some (by kernel_rfl))⟩
  f18 := ⟨Tryd.f80.name, by decide, Tryd.func80.trans (congrArg some (by kernel_rfl))⟩
  f19 := Tryd.func81.trans (congrArg some (by kernel_rfl))
  f20 := Tryd.func82.trans (congrArg some (by kernel_rfl))
  f30 := ⟨Tryd.f84.name, by decide, Tryd.func84.trans (congrArg some (by kernel_rfl))⟩
  f31 := Tryd.func85.trans (congrArg some (by kernel_rfl))
  f32 := Tryd.func86.trans (congrArg some (by kernel_rfl))
  f33 := ⟨Tryd.f87.name, by decide, Tryd.func87.trans (congrArg some (by kernel_rfl))⟩
  f34 := ⟨Tryd.f88.name, by decide, Tryd.func88.trans (congrArg some (by kernel_rfl))⟩
  f35 := ⟨Tryd.f89.name, by decide, Tryd.func89.trans (congrArg some (by kernel_rfl))⟩
  f40 := ⟨Tryd.f92.name, by decide, Tryd.func92.trans (congrArg some (by kernel_rfl))⟩
  t0 := Tryd.underlying0
  a0 := Tryd.isAgg0
  z0 := Tryd.sizeOf0
  v0 := Tryd.zeroValue0
  t3 := Tryd.underlying3
  a3 := Tryd.isAgg3
  z3 := Tryd.sizeOf3
  v3 := Tryd.zeroValue3
  t4 := Tryd.underlying4
  a4 := Tryd.isAgg4
  z4 := Tryd.sizeOf4
  v4 := Tryd.zeroValue4
  t5 := Tryd.underlying5
  a5 := Tryd.isAgg5
  z5 := Tryd.sizeOf5
  v5 := Tryd.zeroValue5
  t9 := Tryd.underlying9
  a9 := Tryd.isAgg9
  z9 := Tryd.sizeOf9
  v9 := Tryd.zeroValue9
  t22 := Tryd.underlying22
  a22 := Tryd.isAgg22
  z22 := Tryd.sizeOf22
  v22 := Tryd.zeroValue22
  t23 := Tryd.underlying22
  a23 := Tryd.isAgg22
  z23 := Tryd.sizeOf22
  v23 := Tryd.zeroValue22
  t25 := Tryd.underlying3
  a25 := Tryd.isAgg3
  z25 := Tryd.sizeOf3
  v25 := Tryd.zeroValue3
  t32 := Tryd.underlying117
  a32 := Tryd.isAgg117
  z32 := Tryd.sizeOf117
  v32 := Tryd.zeroValue117
  t35 := Tryd.underlying125
  a35 := Tryd.isAgg125
  z35 := Tryd.sizeOf125
  v35 := Tryd.zeroValue125
  t36 := Tryd.underlying126
  a36 := Tryd.isAgg126
  z36 := Tryd.sizeOf126
  v36 := Tryd.zeroValue126
  t41 := Tryd.underlying130
  a41 := Tryd.isAgg130
  z41 := Tryd.sizeOf130
  v41 := Tryd.zeroValue130
  t44 := Tryd.underlying133
  a44 := Tryd.isAgg133
  z44 := Tryd.sizeOf133
  v44 := Tryd.zeroValue133
  t46 := Tryd.underlying109
  a46 := Tryd.isAgg109
  z46 := Tryd.sizeOf109
  v46 := Tryd.zeroValue109
  t53 := Tryd.underlying138
  a53 := Tryd.isAgg138
  z53 := Tryd.sizeOf138
  v53 := Tryd.zeroValue138
  t57 := Tryd.underlying142
  a57 := Tryd.isAgg142
  z57 := Tryd.sizeOf142
  v57 := Tryd.zeroValue142
  t63 := Tryd.underlying144
  a63 := Tryd.isAgg144
  z63 := Tryd.sizeOf144
  v63 := Tryd.zeroValue144
  t64 := Tryd.underlying145
  a64 := Tryd.isAgg145
  z64 := Tryd.sizeOf145
  v64 := Tryd.zeroValue145 }
end Go.Proofs.YtdbebdjnpckfdaaDoor
