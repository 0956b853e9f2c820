/- Tables of private originals: Persons, Without. -/
import Derived.Test.YtdbebdjnpckfdaaDoorSk
set_option linter.unusedSimpArgs false
set_option linter.unusedVariables false
namespace Go.Rl
open Go.V Go.Lx
section
variable {α : Type} {q : α → Bool} {d : α}
theorem idx_first : ∀ {l : List α} {k i : Nat}, idx q k l = (k + i : Nat) → (∀ j, j < i → q (l.getD j d) = false) ∧ i < l.length ∧ q (l.getD i d) = true
  | [], k, i, h => by rw [idx] at h; omega
  | v :: r, k, i, h => by
    rw [idx] at h
    split at h
    · rename_i hq
      obtain rfl : i = 0 := by omega
      exact ⟨fun j hj => absurd hj (Nat.not_lt_zero j), by simp, hq⟩
    · rename_i hq
      have hq : q v = false := by simpa using hq
      cases i with
      | zero =>
        have := idx_lt' (q := q) (l := r) (k := k + 1)
        omega
      | succ i =>
        obtain ⟨h1, h2, h3⟩ := idx_first (l := r) (k := k + 1) (i := i) (by rw [h]; omega)
        refine ⟨fun j hj => ?_, by simp; omega, h3⟩
        cases j with
        | zero => exact hq
        | succ j => exact h1 j (by omega)
where
  idx_lt' {q : α → Bool} : ∀ {l : List α} {k : Nat}, idx q k l = -1 ∨ (k : Int) ≤ idx q k l
    | [], k => .inl (by rw [idx])
    | v :: r, k => by
      rw [idx]
      split
      · exact .inr (Int.le_refl _)
      · rcases idx_lt' (q := q) (l := r) (k := k + 1) with h | h
        · exact .inl h
        · exact .inr (by omega)
theorem idx_bd : ∀ {l : List α} {k : Nat}, idx q k l < k + l.length ∧ -1 ≤ idx q k l
  | [], k => by rw [idx]; simp; omega
  | v :: r, k => by
    rw [idx, List.length_cons]
    have := idx_bd (l := r) (k := k + 1)
    split <;> omega
theorem idx_none {l : List α} {k : Nat} (h : idx q k l < 0) : ∀ x ∈ l, q x = false := by
  have h1 := idx_any (q := q) (l := l) (k := k)
  rw [decide_eq_false (by omega)] at h1
  intro x hx
  cases hq : q x with
  | false => rfl
  | true => rw [List.any_eq_true.2 ⟨x, hx, hq⟩] at h1; cases h1
theorem filter_take {l : List α} {k : Nat} (h : k < l.length) : (l.take (k + 1)).filter q = if q (l.getD k d) = true then (l.take k).filter q ++ [l.getD k d] else (l.take k).filter q := by
  rw [take_snoc h, List.filter_append]
  generalize l.getD k d = x
  cases hq : q x with
  | true => simp [List.filter_cons, hq]
  | false => simp [List.filter_cons, hq]
theorem getD_take_lt {l : List α} {k j : Nat} (h : j < k) : (l.take k).getD j d = l.getD j d := by
  rw [List.getD_eq_getElem?_getD, List.getElem?_take, if_pos h, List.getD_eq_getElem?_getD]
theorem take_set_snoc {A : List α} {K : Nat} {v : α} (h : K < A.length) : (A.set K v).take (K + 1) = A.take K ++ [v] := by
  rw [List.take_add_one, List.take_set_of_le (Nat.le_refl _), List.getElem?_set, if_pos rfl, if_pos h]; rfl
end
end Go.Rl
namespace Go.Proofs.YtdbebdjnpckfdaaDoor
open Go.V Go.RowKit Go.L Go.Lx Go.Rl Go.Shelf
set_option maxRecDepth 10000
set_option maxHeartbeats 4000000
theorem sortT_ok (l : List Int) (hl : l.length < 4611686018427387904) : Ok Tryd.prog 49 [] [(0, intO l)] (.pair (.sl 0 [] 1 0 l.length) .nul) (fun r h' => r = .tup .nul ∧ h' = [(0, intO (srt l))]) :=
  sort_ok (fun blk off cap zs w h1 h2 h3 => AnyM.slices_Sort_int sort49 blk off cap zs w h1 h2 h3) (fun p cap w => AnyM.slices_Sort_int_none sort49 p cap w) l hl
theorem persons_ok (S : List Int) (R : List Row) (hS : S.length ≤ 4611686018427387904) (hR : R.length ≤ 4611686018427387904) (hV : ∀ k, (R.getD k rowZ).V.length ≤ 4611686018427387904) : Ok Tryd.prog 30 [] [] (.pair (tabV S R) .nul) (fun r h' => r = liV (pers ⟨S, R⟩) ∧ h' = []) := by
  have c1 := valid_ok S R hS hR hV
  unfold pers
  by_cases hE : okE ⟨S, R⟩ = 0
  · rw [if_pos hE]
    have hz := okE_zero.1 hE
    rw [hE] at c1
    have hR64 : R.length ≤ 64 := hz.2.1
    clear hE hz hV
    have hst : ∀ k, k < R.length → (ps R).take (k + 1) = (ps R).take k ++ [(R.getD k rowZ).p] := fun k hk => by rw [take_snoc (d := 0) (by rw [ps_len]; exact hk), ps_get]
    have hln : ∀ k, k ≤ R.length → ((ps R).take k).length = k := fun k hk => by rw [List.length_take, ps_len]; omega
    have c2 := sortT_ok (ps R) (by rw [ps_len]; omega)
    have hpl := ps_len R
    show Ok _ _ _ _ _ (fun r h' => r = liV (srt (ps R)) ∧ h' = [])
    have hsl := srt_len (ps R)
    have htk : (ps R).take R.length = ps R := List.take_of_length_le (by rw [hpl]; exact Nat.le_refl _)
    generalize ps R = L at *
    refine Ok.of_vcC tt_ok Tryd.func30 rfl rfl (by show 1 ≤ _; decide) 0 (hlt_ok (by rfl)) fun c0 => ?_
    repeat' (first | (refine SS_ ?_) | (refine Seq.callp false (c1) Tryd.func41 GOk.nil subG.nil (by rfl) (by rfl) rfl rfl rfl rfl rfl (by rfl) rfl VW_ NI_ NI_ FR_ ?_) | (refine VC.litF (by rfl) LFA_ ?_) | fail)
    refine VC.conv (Sim.ghost 3 1 (fun i => .int .i64 (([] : List Int).getD i 0)) (by rfl) (.inl rfl)) ?_
    refine VC.loop (fun k : Nat => ⟨[(12, .int .i64 (k : Nat)), (11, .int .i64 R.length), (10, rowsV R), (3, .sl 1 [] 1 0 (L.take k).length), (1, .ptr 0 [])], [(1, liO (L.take k)), (0, tabV S R)], [], 2⟩) (fun k => k ≤ R.length) (fun k => R.length - k) 0 (by omega) (by
      (refine Sim.less [] (by rfl) ?_ ?_ <;> (repeat' (first | (exact EnvLe.nil) | (exact HeapLe.nil) | (with_reducible apply EnvLe.cons) | (with_reducible apply HeapLe.cons) | ((with_reducible refine RelA.int ?_; first | (refine Keep.mk ?_; first | with_reducible rfl | omega | decide) | skip)) | (exact rfl) | (exact ⟨rfl, rfl⟩) | ((with_reducible refine RelA.rsl ?_; intro i hi)) | (with_reducible refine RelA.pair ?_ ?_) | ((refine RelA.arr ?_; intro i hi)) | fail)) <;> (try with_reducible refine Keep.mk ?_))
      all_goals exact rfl) fun k hk => ?_
    by_cases hkl : k < R.length
    · have hko : R.getD ((k : Nat) : Int).toNat rowZ = R.getD k rowZ := by rw [Int.toNat_natCast]
      have hst := hst k hkl
      have hl1 := hln k hk
      rw [← hko] at hst
      generalize hT : L.take (k + 1) = T2 at *
      generalize L.take k = T at *
      clear hln c1 c2 htk hsl hpl
      repeat' (first | (refine SS_ ?_) | (refine VC.litT (by rfl) LTR_ ?_) | fail)
      refine ⟨k + 1, by omega, by omega, ?_⟩
      rw [hT, hst]
      show ∀ a_1 w, _ → Sim _ ⟨[(12, .int .i64 ((k + 1 : Nat) : Int)), (11, .int .i64 R.length), (10, rowsV R), (3, .sl 1 [] 1 0 (T ++ [(R.getD ((k : Nat) : Int).toNat rowZ).p]).length), (1, .ptr 0 [])], [(1, .arr (T ++ [(R.getD ((k : Nat) : Int).toNat rowZ).p]).length 1 (fun i => .int .i64 ((T ++ [(R.getD ((k : Nat) : Int).toNat rowZ).p]).getD i 0))), (0, tabV S R)], [], 2⟩ a_1 w
      rw [List.length_append, List.length_singleton]
      (refine Sim.less [(1, 4)] (by rfl) ?_ ?_ <;> (repeat' (first | (exact EnvLe.nil) | (exact HeapLe.nil) | (with_reducible apply EnvLe.cons) | (with_reducible apply HeapLe.cons) | ((with_reducible refine RelA.int ?_; first | (refine Keep.mk ?_; first | with_reducible rfl | omega | decide) | skip)) | (exact rfl) | (exact ⟨rfl, rfl⟩) | ((with_reducible refine RelA.rsl ?_; intro i hi)) | (with_reducible refine RelA.pair ?_ ?_) | ((refine RelA.arr ?_; intro i hi)) | fail)) <;> (try with_reducible refine Keep.mk ?_))
      exact rel_snocG (G := AV.int .i64) (fun e => NI_) hi
    · obtain rfl : k = R.length := by omega
      rw [htk]
      repeat' (first | (refine SS_ ?_) | (refine Seq.callo false [(0, 1)] [(1, 0)] (.tup .nul) ([(1, .arr L.length 1 (fun i => .int .i64 ((srt L).getD i 0)))]) 2 (c2) Tryd.func49 GOk.nil subG.nil (by rfl) (by rfl) rfl rfl rfl rfl rfl (by rfl) rfl (by rfl) (by rfl) (by rfl) (by rfl) VW_ NI_ R_ (noFrL_ok NI_) BK_ ?_) | (refine VC.litF (by rfl) LFA_ ?_) | fail)
      refine retC_conv' (Sim.stillV (e' := [(2, liV (srt L))]) (h' := []) [1] (by rfl) (by repeat' (first | exact HeapV.nil | refine HeapV.cons (by rfl) VW_ NI_ (by rfl) ?_)) (EnvV.cons (by rfl) (view_li (by rfl) ⟨rfl, rfl⟩ hsl) NI_ EnvV.nil)) ?_
      (refine retC_mk ([(2, liV (srt L))]) ([]) 2 (Sim.less [] (by rfl) R_ R_) (retQ_ok (by rfl) ([]) (fun i av h => h) ⟨?_, ?_⟩)) <;> rfl
  · rw [if_neg hE]
    generalize okE ⟨S, R⟩ = E at *
    refine Ok.of_vcC tt_ok Tryd.func30 rfl rfl (by show 1 ≤ _; decide) 0 (hlt_ok (by rfl)) fun c0 => ?_
    repeat' (first | (refine SS_ ?_) | (refine Seq.callp false (c1) Tryd.func41 GOk.nil subG.nil (by rfl) (by rfl) rfl rfl rfl rfl rfl (by rfl) rfl VW_ NI_ NI_ FR_ ?_) | (refine VC.litT (by rfl) LTR_ ?_) | fail)
    refine retC_conv' (Sim.ghost 2 1 (fun i => .int .i64 (([] : List Int).getD i 0)) (by rfl) (.inl rfl)) ?_
    refine retC_conv' (Sim.stillV (e' := [(2, liV [])]) (h' := []) [1] (by rfl) (by repeat' (first | exact HeapV.nil | refine HeapV.cons (by rfl) VW_ NI_ (by rfl) ?_)) (by repeat' (first | exact EnvV.nil | refine EnvV.cons (by rfl) VW_ NI_ ?_))) ?_
    (refine retC_mk ([(2, liV [])]) ([]) 2 (Sim.less [] (by rfl) R_ R_) (retQ_ok (by rfl) ([]) (fun i av h => h) ⟨?_, ?_⟩)) <;> rfl
abbrev w1F : AV := .fn (.func 55) .nul (.pair (.ptr 0 []) .nul)
theorem w1_ok (r : Row) (p : Int) : Ok Tryd.prog 55 [] [(0, .int .i64 p)] (.pair (rowA r) (.pair (.ptr 0 []) .nul)) (fun v h' => v = .bool (decide (r.p = p)) ∧ h' = [(0, .int .i64 p)]) := by
  refine Ok.of_vcC tt_ok Tryd.func55 rfl rfl (by show 2 ≤ _; decide) 1 (hlt_ok (by rfl)) fun c0 => ?_
  repeat' (first | (refine SS_ ?_) | fail)
  (refine retC_mk ([(3, .bool (decide (r.p = p)))]) ([(0, .int .i64 p)]) 1 (Sim.less [] (by rfl) R_ R_) (retQ_ok (by rfl) ([(0, .int .i64 p)]) (fun i av h => h) ⟨?_, ?_⟩)) <;> rfl
theorem idxW_ok (R : List Row) (hR : R.length ≤ 4611686018427387904) (p : Int) : Ok Tryd.prog 69 [] [(1, rowsO R), (0, .int .i64 p)] (.pair (.sl 1 [] 2 0 R.length) (.pair w1F .nul)) (fun r h' => r = .int .i64 (idx (fun r : Row => decide (r.p = p)) 0 R) ∧ h' = [(1, rowsO R), (0, .int .i64 p)]) := by
  refine Ok.of_vcC tt_ok Tryd.func69 rfl rfl (by show 2 ≤ _; decide) 2 (hlt_ok (by rfl)) fun c0 => ?_
  repeat' (first | (refine SS_ ?_) | fail)
  refine VC.loop (fun k : Nat => ⟨[(8, .int .i64 (k : Nat)), (7, .int .i64 R.length), (1, w1F), (0, .sl 1 [] 2 0 R.length)], [(1, rowsO R), (0, .int .i64 p)], [], 2⟩) (fun k => k ≤ R.length ∧ idx (fun r : Row => decide (r.p = p)) 0 R = idx (fun r : Row => decide (r.p = p)) k (R.drop k)) (fun k => R.length - k) 0 ⟨by omega, rfl⟩ (Sim.less [] (by rfl) R_ R_) fun k hk => ?_
  obtain ⟨hk, hi⟩ := hk
  by_cases hkl : k < R.length
  · have hget : R.getD (0 + ((k : Nat) : Int).toNat) rowZ = R.getD k rowZ := by rw [Int.toNat_natCast, Nat.zero_add]
    rw [idx_step (d := rowZ) hkl] at hi
    have c1 := w1_ok (R.getD k rowZ) p
    rw [← hget] at c1 hi
    generalize decide ((R.getD (0 + ((k : Nat) : Int).toNat) rowZ).p = p) = qq at *
    repeat' (first | (refine SS_ ?_) | (refine Seq.callo false [] [] (.bool qq) ([(0, .int .i64 p)]) 2 (c1) Tryd.func55 GOk.nil subG.nil (by rfl) (by rfl) rfl rfl rfl rfl rfl (by rfl) rfl (by rfl) (by rfl) (by rfl) (by rfl) VW_ NI_ R_ (noFrL_ok NI_) BK_ ?_) | (refine VC.litT (by rfl) LTR_ ?_) | (refine VC.cond (by rfl) (fun hb => ?_) (fun hb => ?_) <;> (fail_if_success (with_reducible have := litT_ hb)) <;> (fail_if_success (with_reducible have := litF_ hb)) <;> (try simp only [HB_] at hb) <;> (try (exfalso; first | omega | (cases hb; done)))) | fail)
    · rw [if_pos (by simpa using hb)] at hi
      rw [hi]
      (refine retC_mk ([(4, .int .i64 (k : Nat))]) ([(1, rowsO R), (0, .int .i64 p)]) 2 (Sim.less [] (by rfl) R_ R_) (retQ_ok (by rfl) ([(1, rowsO R), (0, .int .i64 p)]) (fun i av h => h) ⟨?_, ?_⟩)) <;> rfl
    · rw [if_neg (by simpa using hb)] at hi
      refine ⟨k + 1, ⟨by omega, hi⟩, by omega, ?_⟩
      exact (Sim.less [] (by rfl) R_ R_)
  · repeat' (first | (refine SS_ ?_) | (refine VC.litF (by rfl) LFA_ ?_) | fail)
    rw [List.drop_of_length_le (by omega)] at hi
    rw [hi]
    (refine retC_mk ([(4, .int .i64 (-1))]) ([(1, rowsO R), (0, .int .i64 p)]) 2 (Sim.less [] (by rfl) R_ R_) (retQ_ok (by rfl) ([(1, rowsO R), (0, .int .i64 p)]) (fun i av h => h) ⟨?_, ?_⟩)) <;> rfl
theorem retC_cutT {F : Fr} {T : List (Option TI)} {fn : Func} {R : AV → Asc → Prop} {x : Exit} {e h g h' : Asc} {N : Nat} (id n : Nat) {m sz : Nat} {f : Nat → AV} (hi : get? h id = some (.arr m sz f)) (hn : n ≤ m) (hp : putK h id (.arr n sz f) some = some h') (h2 : retC F T fn R x ⟨e, h', g, N⟩) : retC F T fn R x ⟨e, h, g, N⟩ :=
  retC_conv' (Sim.cut id n hi hn hp) h2
abbrev woR (R : List Row) (p : Int) : List Row := R.filter fun r => !decide (r.p = p)
theorem delW_ok (R : List Row) (hR : R.length ≤ 4611686018427387904) (p : Int) : Ok Tryd.prog 54 [] [(1, rowsO R), (0, .int .i64 p)] (.pair (.sl 1 [] 2 0 R.length) (.pair w1F .nul)) (fun r h' => r = .sl 1 [] 2 0 (woR R p).length ∧ h' = [(1, rowsO (woR R p)), (0, .int .i64 p)]) := by
  have c1 := idxW_ok R hR p
  have hlt := idx_bd (q := fun r : Row => decide (r.p = p)) (l := R) (k := 0)
  by_cases hneg : idx (fun r : Row => decide (r.p = p)) 0 R < 0
  · have hnone := idx_none hneg
    have hk : woR R p = R := List.filter_eq_self.2 fun x hx => by rw [hnone x hx]; rfl
    rw [hk]
    have hm : idx (fun r : Row => decide (r.p = p)) 0 R = -1 := by omega
    rw [hm] at c1
    refine Ok.of_vcC tt_ok Tryd.func54 rfl rfl (by show 2 ≤ _; decide) 2 (hlt_ok (by rfl)) fun c0 => ?_
    repeat' (first | (refine SS_ ?_) | (refine Seq.callo false [] [] (.int .i64 (-1)) ([(1, rowsO R), (0, .int .i64 p)]) 2 (c1) Tryd.func69 GOk.nil subG.nil (by rfl) (by rfl) rfl rfl rfl rfl rfl (by rfl) rfl (by rfl) (by rfl) (by rfl) (by rfl) VW_ NI_ R_ (noFrL_ok NI_) BK_ ?_) | (refine VC.litT (by rfl) LTR_ ?_) | fail)
    (refine retC_mk ([(4, .sl 1 [] 2 0 R.length)]) ([(1, rowsO R), (0, .int .i64 p)]) 2 (Sim.less [] (by rfl) R_ R_) (retQ_ok (by rfl) ([(1, rowsO R), (0, .int .i64 p)]) (fun i av h => h) ⟨?_, ?_⟩)) <;> rfl
  · obtain ⟨i0, hi0⟩ : ∃ i0 : Nat, idx (fun r : Row => decide (r.p = p)) 0 R = (0 + i0 : Nat) := ⟨(idx (fun r : Row => decide (r.p = p)) 0 R).toNat, by omega⟩
    obtain ⟨hf1, hf2, hf3⟩ := idx_first (d := rowZ) hi0
    rw [hi0, Nat.zero_add] at c1
    have hstart : (R.take (i0 + 1)).filter (fun r : Row => !decide (r.p = p)) = R.take i0 := by
      rw [filter_take (d := rowZ) hf2, if_neg (by rw [hf3]; simp)]
      refine List.filter_eq_self.2 fun x hx => ?_
      obtain ⟨j, hj, rfl⟩ := (mem_getD (d := rowZ)).1 hx
      rw [List.length_take] at hj
      rw [getD_take_lt (by omega), hf1 j (by omega)]; rfl
    refine Ok.of_vcC tt_ok Tryd.func54 rfl rfl (by show 2 ≤ _; decide) 2 (hlt_ok (by rfl)) fun c0 => ?_
    repeat' (first | (refine SS_ ?_) | (refine Seq.callo false [] [] (.int .i64 (i0 : Nat)) ([(1, rowsO R), (0, .int .i64 p)]) 2 (c1) Tryd.func69 GOk.nil subG.nil (by rfl) (by rfl) rfl rfl rfl rfl rfl (by rfl) rfl (by rfl) (by rfl) (by rfl) (by rfl) VW_ NI_ R_ (noFrL_ok NI_) BK_ ?_) | (refine VC.litF (by rfl) LFA_ ?_) | fail)
    refine VC.loop (fun x : Nat × Nat × List Row => ⟨[(6, .int .i64 (x.1 : Nat)), (5, .int .i64 (x.2.1 : Nat)), (1, w1F), (0, .sl 1 [] 2 0 R.length)], [(1, .arr R.length 2 (fun i => rowA (x.2.2.getD i rowZ))), (0, .int .i64 p)], [], 2⟩)
      (fun x => x.2.2.length = R.length ∧ x.1 ≤ R.length ∧ x.2.1 < x.1 ∧ x.2.2.take x.2.1 = (R.take x.1).filter (fun r : Row => !decide (r.p = p)) ∧ ∀ j, x.1 ≤ j → j < R.length → x.2.2.getD j rowZ = R.getD j rowZ) (fun x => R.length - x.1) (i0 + 1, i0, R) ⟨rfl, by show i0 + 1 ≤ R.length; omega, by show i0 < i0 + 1; omega, hstart.symm, fun _ _ _ => rfl⟩ (Sim.less [] (by rfl) R_ R_) fun x hx => ?_
    obtain ⟨m, K, A⟩ := x
    obtain ⟨hA, hm, hK, hc, hrest⟩ := hx
    simp only at hA hm hK hc hrest
    show VC _ _ _ ⟨[(6, .int .i64 (m : Nat)), (5, .int .i64 (K : Nat)), (1, w1F), (0, .sl 1 [] 2 0 R.length)], [(1, .arr R.length 2 (fun i => rowA (A.getD i rowZ))), (0, .int .i64 p)], [], 2⟩
    by_cases hml : m < R.length
    · have hft := filter_take (q := fun r : Row => !decide (r.p = p)) (d := rowZ) hml
      have hg1 : A.getD (0 + ((m : Nat) : Int).toNat) rowZ = R.getD m rowZ := by rw [Int.toNat_natCast, Nat.zero_add]; exact hrest m (Nat.le_refl _) hml
      have c2 := w1_ok (R.getD m rowZ) p
      rw [← hg1] at c2 hft
      generalize hq : decide ((A.getD (0 + ((m : Nat) : Int).toNat) rowZ).p = p) = qq at *
      repeat' (first | (refine SS_ ?_) | (refine Seq.callo false [] [] (.bool qq) ([(0, .int .i64 p)]) 3 (c2) Tryd.func55 GOk.nil subG.nil (by rfl) (by rfl) rfl rfl rfl rfl rfl (by rfl) rfl (by rfl) (by rfl) (by rfl) (by rfl) VW_ NI_ R_ (noFrL_ok NI_) BK_ ?_) | (refine VC.litT (by rfl) LTR_ ?_) | (refine VC.cond (by rfl) (fun hb => ?_) (fun hb => ?_) <;> (fail_if_success (with_reducible have := litT_ hb)) <;> (fail_if_success (with_reducible have := litF_ hb)) <;> (try simp only [HB_] at hb) <;> (try (exfalso; first | omega | (cases hb; done)))) | fail)
      · rw [if_pos (by simpa using hb)] at hft
        refine ⟨(m + 1, K + 1, A.set K (A.getD (0 + ((m : Nat) : Int).toNat) rowZ)), ⟨by rw [List.length_set]; exact hA, hml, by show K + 1 < m + 1; omega, ?_, fun j hj1 hj2 => ?_⟩, by show R.length - (m + 1) < R.length - m; omega, ?_⟩
        · show (A.set K _).take (K + 1) = (R.take (m + 1)).filter _
          rw [take_set_snoc (by omega), hc, hft]
        · show (A.set K _).getD j rowZ = _
          have hj1 : m + 1 ≤ j := hj1
          rw [set_ne (by omega)]
          exact hrest j (by omega) hj2
        · generalize A.getD (0 + ((m : Nat) : Int).toNat) rowZ = v at *
          show ∀ a w, _ → Sim _ ⟨[(6, .int .i64 ((m + 1 : Nat) : Int)), (5, .int .i64 ((K + 1 : Nat) : Int)), (1, w1F), (0, .sl 1 [] 2 0 R.length)], [(1, .arr R.length 2 (fun i => rowA ((A.set K v).getD i rowZ))), (0, .int .i64 p)], [], 2⟩ a w
          (refine Sim.less [] (by rfl) ?_ ?_ <;> (repeat' (first | (exact EnvLe.nil) | (exact HeapLe.nil) | (with_reducible apply EnvLe.cons) | (with_reducible apply HeapLe.cons) | ((with_reducible refine RelA.int ?_; first | (refine Keep.mk ?_; first | with_reducible rfl | omega | decide) | skip)) | (exact rfl) | (exact ⟨rfl, rfl⟩) | ((with_reducible refine RelA.arr ?_; intro i hi)) | (with_reducible refine RelA.pair ?_ ?_) | (refine RelA.fn ?_ ?_) | fail)) <;> (try with_reducible refine Keep.mk ?_))
          exact rel_setG (G := rowA) (fun e => NI_) (by omega) rfl
      · rw [if_neg (by simpa using hb)] at hft
        refine ⟨(m + 1, K, A), ⟨hA, hml, by show K < m + 1; omega, ?_, fun j hj1 hj2 => hrest j (by have : m + 1 ≤ j := hj1; omega) hj2⟩, by show R.length - (m + 1) < R.length - m; omega, ?_⟩
        · show A.take K = (R.take (m + 1)).filter _
          rw [hc, hft]
        · show ∀ a w, _ → Sim _ ⟨[(6, .int .i64 ((m + 1 : Nat) : Int)), (5, .int .i64 (K : Nat)), (1, w1F), (0, .sl 1 [] 2 0 R.length)], [(1, .arr R.length 2 (fun i => rowA (A.getD i rowZ))), (0, .int .i64 p)], [], 2⟩ a w
          exact (Sim.less [] (by rfl) R_ R_)
    · repeat' (first | (refine SS_ ?_) | (refine Seq.eff (clear_ok tt_ok (by rfl) (by rfl) (by rfl) (by rfl) (by omega)) (by rfl) (by rfl) ?_) | (refine VC.litF (by rfl) LFA_ ?_) | fail)
      rw [show R.take m = R from List.take_of_length_le (by omega)] at hc
      have hc : A.take K = woR R p := hc
      have hcl : (woR R p).length = K := by rw [← hc, List.length_take]; omega
      have hget : ∀ i, i < K → (woR R p).getD i rowZ = A.getD i rowZ := fun i hi => by rw [← hc, getD_take_lt hi]
      refine retC_cutT 1 K (by rfl) (by omega) (by rfl) ?_
      refine retC_mk [(4, .sl 1 [] 2 0 (woR R p).length)] [(1, rowsO (woR R p)), (0, .int .i64 p)] 2 ?_ (retQ_ok (by rfl) [(1, rowsO (woR R p)), (0, .int .i64 p)] (fun i av h => h) ⟨?_, ?_⟩)
      · rw [hcl]
        (refine Sim.less [] (by rfl) ?_ ?_ <;> (repeat' (first | (exact EnvLe.nil) | (exact HeapLe.nil) | (with_reducible apply EnvLe.cons) | (with_reducible apply HeapLe.cons) | ((with_reducible refine RelA.int ?_; first | (refine Keep.mk ?_; first | with_reducible rfl | omega | decide) | skip)) | (exact rfl) | (exact ⟨rfl, rfl⟩) | (((first | refine RelA.rslL (by first | rfl | ((try simp only [List.length_take, List.length_drop, List.length_append, List.length_cons, List.length_nil, List.length_map, List.length_range]); omega)) ?_ | refine RelA.rslT (by first | rfl | ((try simp only [List.length_take, List.length_drop, List.length_append, List.length_cons, List.length_nil, List.length_map, List.length_range]); omega)) ?_ | refine RelA.arrL (by first | rfl | ((try simp only [List.length_take, List.length_drop, List.length_append, List.length_cons, List.length_nil, List.length_map, List.length_range]); omega)) ?_); intro i hi; (try simp only [List.length_take, List.length_drop] at hi); (try simp (disch := omega) only [getD_take, getD_drop, Nat.zero_add, Int.toNat_natCast]))) | fail)) <;> (try with_reducible refine Keep.mk ?_))
        have hi : i < K := by omega
        rw [hget i hi]
        unfold cpF
        rw [show Nat.ble K i = false by
          cases e : Nat.ble K i with
          | false => rfl
          | true => have := Nat.le_of_ble_eq_true e; omega]
        exact NoId.self NI_
      · rfl
      · rfl
theorem viewN_rows {H : Asc} {bor D : Nat → Prop} {id n : Nat} {l : List Row} (h : get? H id = some (.arr n 2 (fun i => rowA (l.getD i rowZ)))) (hb : bor id) (hn : l.length = n) : ViewN H bor D (rowsV l) (.sl id [] 2 0 n) :=
  ViewN.sl h rfl trivial (by omega) hn hb fun i hi => by rw [Nat.zero_add]; exact .rel (NoId.self NI_)
theorem without_ok (S : List Int) (R : List Row) (hR : R.length ≤ 1048576) (p : Int) : Ok Tryd.prog 35 [] [] (.pair (tabV S R) (.pair (.int .i64 p) .nul)) (fun r h' => r = tabV S (woR R p) ∧ h' = []) := by
  have c1 := delW_ok R (by omega) p
  refine Ok.of_vcC tt_ok Tryd.func35 rfl rfl (by show 2 ≤ _; decide) 0 (hlt_ok (by rfl)) fun c0 => ?_
  repeat' (first | (refine SS_ ?_) | fail)
  refine Seq.conv (s' := ⟨[(15, .fn (.func 55) .nul (.pair (.ptr 1 []) .nul)), (14, .sl 3 [] 2 0 R.length), (4, .ptr 2 []), (2, .ptr 0 [])], [(3, rowsO R), (1, .int .i64 p), (0, tabV S R), (2, .pair (.val (.slice none 0 0)) (.pair (.val (.slice none 0 0)) .nul))], [], 4⟩) (by
    (refine Sim.less [] (by rfl) ?_ ?_ <;> (repeat' (first | (exact EnvLe.nil) | (exact HeapLe.nil) | (with_reducible apply EnvLe.cons) | (with_reducible apply HeapLe.cons) | ((with_reducible refine RelA.int ?_; first | (refine Keep.mk ?_; first | with_reducible rfl | omega | decide) | skip)) | (exact rfl) | (exact ⟨rfl, rfl⟩) | ((with_reducible refine RelA.rsl ?_; intro i hi)) | (with_reducible refine RelA.pair ?_ ?_) | ((refine RelA.arr ?_; intro i hi)) | (refine RelA.pair ?_ ?_) | (refine RelA.fn ?_ ?_) | fail)) <;> (try with_reducible refine Keep.mk ?_))
    unfold cpF
    rw [show Nat.ble 0 i = true from rfl, show Nat.blt i (0 + R.length.min ((R.length : Nat) : Int).toNat) = true by
      rw [Int.toNat_natCast, Nat.zero_add]
      exact Nat.ble_eq_true_of_le (by show i + 1 ≤ min R.length R.length; omega)]
    exact NoId.self NI_) ?_
  repeat' (first | (refine SS_ ?_) | (refine Seq.callo false [(0, 1), (1, 3)] [(3, 1), (1, 0)] (.sl 3 [] 2 0 (woR R p).length) ([(3, rowsO (woR R p)), (1, .int .i64 p)]) 4 (c1) Tryd.func54 GOk.nil subG.nil (by rfl) (by rfl) rfl rfl rfl rfl rfl (by rfl) rfl (by rfl) (by rfl) (by rfl) (by rfl) VW_ NI_ R_ (noFrL_ok NI_) BK_ ?_) | fail)
  refine retC_conv' (Sim.stillN (e' := [(4, .ptr 2 [])]) (h' := [(2, tabV S (woR R p))]) [3] (by rfl) (HeapN.cons (by rfl) (.pair (.rel (NoId.self NI_)) (.pair (viewN_rows (by rfl) rfl rfl) (.rel (NoId.self NI_)))) (by rfl) HeapN.nil) (EnvN.cons (by rfl) (.rel R_) EnvN.nil)) ?_
  exact retC_mk [(4, .ptr 2 [])] [(2, tabV S (woR R p))] 4 (Sim.less [] (by rfl) R_ R_) (retQ_ok (by rfl) [] nil_sub ⟨rfl, rfl⟩)
end Go.Proofs.YtdbebdjnpckfdaaDoor
