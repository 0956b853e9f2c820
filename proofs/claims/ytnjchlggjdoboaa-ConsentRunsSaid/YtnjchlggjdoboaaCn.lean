
/- Books of consent: scripts. -/
import Derived.Test.YtnjchlggjdoboaaCk
set_option linter.unusedSimpArgs false
set_option linter.unusedVariables false
namespace Go.Cs
structure ActS where
  K : Int
  N : Int
  F : List Int
  P : List Int
def actZ : ActS := ⟨0, 0, [], []⟩
/-- What list has made behind k turns; the last number. -/
def listTo (l : List Int) (a n : Int) : Nat → List Int × Int
  | 0 => ([], -1)
  | k + 1 => (if (listTo l a n k).2 + 1 + atI l (a + 1 + k) 3 < n then (listTo l a n k).1 ++ [(listTo l a n k).2 + 1 + atI l (a + 1 + k) 3] else (listTo l a n k).1, (listTo l a n k).2 + 1 + atI l (a + 1 + k) 3)
def listS (l : List Int) (a n : Int) : List Int := (listTo l a n (atI l a 5).toNat).1
theorem listTo_bd (l : List Int) (a n : Int) : ∀ k, -1 ≤ (listTo l a n k).2 ∧ (listTo l a n k).2 ≤ 3 * k ∧ (listTo l a n k).1.length ≤ k
  | 0 => ⟨by show (-1 : Int) ≤ -1; omega, by show (-1 : Int) ≤ _; omega, Nat.le_refl _⟩
  | k + 1 => by
    obtain ⟨h1, h2, h3⟩ := listTo_bd l a n k
    have := at_lt l (a + 1 + k) 3 (by decide)
    refine ⟨?_, ?_, ?_⟩
    · show -1 ≤ (listTo l a n k).2 + 1 + atI l (a + 1 + k) 3; omega
    · show (listTo l a n k).2 + 1 + atI l (a + 1 + k) 3 ≤ _; omega
    · show (if _ then _ else _ : List Int).length ≤ _
      split
      · rw [List.length_append, List.length_singleton]; omega
      · omega
theorem listS_len (l : List Int) (a n : Int) : (listS l a n).length ≤ 4 := by
  have h1 := (listTo_bd l a n (atI l a 5).toNat).2.2
  have h2 := at_lt l a 5 (by decide)
  unfold listS; omega
/-- The acts of the first k turns; how many things they ask for. -/
def scrTo (l : List Int) : Nat → List ActS × Nat
  | 0 => ([], 0)
  | k + 1 =>
    if atI l (12 * (k : Nat)) 9 < 5 then ((scrTo l k).1 ++ [⟨0, 0, listS l (12 * (k : Nat) + 1) (scrTo l k).2, listS l (12 * (k : Nat) + 6) 9⟩], (scrTo l k).2 + 1)
    else if atI l (12 * (k : Nat)) 9 < 7 then ((scrTo l k).1 ++ [⟨1, atI l (12 * (k : Nat) + 1) 9, [], []⟩], (scrTo l k).2)
    else ((scrTo l k).1 ++ [⟨2, atI l (12 * (k : Nat) + 1) ((scrTo l k).2 + 1), [], []⟩], (scrTo l k).2)
def scrN (l : List Int) : Nat := min 24 ((l.length + 11) / 12)
def scr (l : List Int) : List ActS := (scrTo l (scrN l)).1
theorem scrTo_len (l : List Int) : ∀ k, (scrTo l k).1.length = k ∧ (scrTo l k).2 ≤ k
  | 0 => ⟨rfl, Nat.le_refl _⟩
  | k + 1 => by
    obtain ⟨h1, h2⟩ := scrTo_len l k
    unfold scrTo
    split
    · exact ⟨by show (_ ++ _ : List ActS).length = _; simp [h1], by show _ + 1 ≤ _; omega⟩
    split
    · exact ⟨by show (_ ++ _ : List ActS).length = _; simp [h1], by show (scrTo l k).2 ≤ _; omega⟩
    · exact ⟨by show (_ ++ _ : List ActS).length = _; simp [h1], by show (scrTo l k).2 ≤ _; omega⟩
structure ActOk (a : ActS) : Prop where
  k : 0 ≤ a.K ∧ a.K ≤ 2
  n : 0 ≤ a.N ∧ a.N ≤ 9223372036854775807
  f : a.F.length ≤ 4
  p : a.P.length ≤ 4
theorem scrTo_ok (l : List Int) : ∀ k, k ≤ 24 → ∀ a ∈ (scrTo l k).1, ActOk a
  | 0, _, a, h => by cases h
  | k + 1, hk, a, h => by
    have ih := scrTo_ok l k (by omega)
    have h2 := (scrTo_len l k).2
    unfold scrTo at h
    split at h
    · rcases List.mem_append.1 h with h | h
      · exact ih a h
      · rw [List.mem_singleton.1 h]; exact ⟨⟨Int.le_refl 0, (by decide : (0 : Int) ≤ 2)⟩, ⟨Int.le_refl 0, (by decide : (0 : Int) ≤ 9223372036854775807)⟩, listS_len _ _ _, listS_len _ _ _⟩
    split at h
    · rcases List.mem_append.1 h with h | h
      · exact ih a h
      · rw [List.mem_singleton.1 h]
        have := at_lt l (12 * (k : Nat) + 1) 9 (by decide)
        exact ⟨⟨(by decide : (0 : Int) ≤ 1), (by decide : (1 : Int) ≤ 2)⟩, ⟨this.1, by show atI _ _ _ ≤ _; omega⟩, Nat.zero_le 4, Nat.zero_le 4⟩
    · rcases List.mem_append.1 h with h | h
      · exact ih a h
      · rw [List.mem_singleton.1 h]
        have := at_lt l (12 * (k : Nat) + 1) ((scrTo l k).2 + 1) (by omega)
        exact ⟨⟨(by decide : (0 : Int) ≤ 2), Int.le_refl 2⟩, ⟨this.1, by show atI _ _ _ ≤ _; omega⟩, Nat.zero_le 4, Nat.zero_le 4⟩
theorem scr_len (l : List Int) : (scr l).length ≤ 24 := by
  unfold scr scrN
  rw [(scrTo_len l _).1]; omega
theorem scr_ok (l : List Int) : ∀ a ∈ scr l, ActOk a := scrTo_ok l _ (by unfold scrN; omega)
end Go.Cs
namespace Go.Proofs.Ytnjchlggjdoboaa
open Go.V Go.RowKit Go.L Go.Cs Go.Dk
abbrev actA (a : ActS) : AV := .pair (.int .i64 a.K) (.pair (.int .i64 a.N) (.pair (.pair (intsV a.F) (.pair (intsV a.P) .nul)) .nul))
abbrev actsV (l : List ActS) : AV := .rsl false l.length 4 (fun i => actA (l.getD i actZ))
set_option maxRecDepth 10000
set_option maxHeartbeats 4000000
theorem rel_snoc {A : Nat → Prop} {σ : Nat → Nat} {o : List Int} {x : Int} {K : Nat → AV} {i : Nat} (hi : i < o.length + 1) (hK : K 0 = .int .i64 x := by rfl) : RelA A σ (.int .i64 ((o ++ [x]).getD i 0)) (joinF o.length (fun i => .int .i64 (o.getD i 0)) K i) := by
  rcases Nat.lt_or_ge i o.length with h1 | h1
  · rw [joinF_lt h1, app_lt h1]; exact rfl
  · obtain rfl : i = o.length := by omega
    rw [joinF_ge (Nat.le_refl _), app_eq, Nat.sub_self, hK]; exact rfl
theorem list_ok (l : List Int) (hl : IOk l) (a n : Int) (ha : 0 ≤ a ∧ a ≤ 1000) : Ok Try.prog 36 [] [] (.pair (intsV l) (.pair (.int .i64 a) (.pair (.int .i64 n) .nul))) (fun r h' => r = intsV (listS l a n) ∧ h' = []) := by
  have cz := at_ok l hl a 5
  have hm := at_lt l a 5 (by decide)
  have c1 := fun k : Nat => at_ok l hl (a + 1 + k) 3
  have h3 := fun k : Nat => at_lt l (a + 1 + k) 3 (by decide)
  unfold listS
  have hbd := listTo_bd l a n
  have hstep : ∀ k, listTo l a n (k + 1) = (if (listTo l a n k).2 + 1 + atI l (a + 1 + k) 3 < n then (listTo l a n k).1 ++ [(listTo l a n k).2 + 1 + atI l (a + 1 + k) 3] else (listTo l a n k).1, (listTo l a n k).2 + 1 + atI l (a + 1 + k) 3) := fun k => rfl
  generalize atI l a 5 = m at *
  refine Ok.of_vcC tt_ok Try.func36 rfl rfl (by show 3 ≤ _; decide) 0 (hlt_ok (by rfl)) fun c0 => ?_
  repeat' (first | (refine SS_ ?_) | (done) | (refine Seq.lit (by rfl) (by rfl) LT2_ ?_) | (refine VC.litT (by rfl) LTR_ ?_) | (refine VC.litF (by rfl) LFA_ ?_) | (refine DD_ ?_) | (refine DSeq.lit2 (by rfl) (by rfl) (by rfl) LT2_ (by rfl) ?_) | ((refine retQ_ok (by rfl) [] nil_sub ⟨?_, rfl⟩); try rfl) | (refine Seq.litC (by rfl) (by rfl) (fun hb => ?_) (fun hb => ?_) <;> (fail_if_success (with_reducible have := litT_ hb)) <;> (fail_if_success (with_reducible have := litF_ hb)) <;> (try simp only [decide_eq_true_eq, decide_eq_false_iff_not, Bool.not_eq_true', Bool.not_eq_false', Bool.or_eq_true, Bool.or_eq_false_iff, Bool.and_eq_true, Bool.and_eq_false_iff] at hb) <;> (try (exfalso; first | omega | (cases hb; done)))) | (refine VC.cond (by rfl) (fun hb => ?_) (fun hb => ?_) <;> (fail_if_success (with_reducible have := litT_ hb)) <;> (fail_if_success (with_reducible have := litF_ hb)) <;> (try simp only [decide_eq_true_eq, decide_eq_false_iff_not, Bool.not_eq_true', Bool.not_eq_false', Bool.or_eq_true, Bool.or_eq_false_iff, Bool.and_eq_true, Bool.and_eq_false_iff] at hb) <;> (try (exfalso; first | omega | (cases hb; done)))) | (refine DSeq.litC2 (by rfl) (by rfl) (by rfl) (by rfl) (by rfl) (fun hb => ?_) (fun hb => ?_) <;> (fail_if_success (with_reducible have := litT_ hb)) <;> (fail_if_success (with_reducible have := litF_ hb)) <;> (try simp only [decide_eq_true_eq, decide_eq_false_iff_not, Bool.not_eq_true', Bool.not_eq_false', Bool.or_eq_true, Bool.or_eq_false_iff, Bool.and_eq_true, Bool.and_eq_false_iff] at hb) <;> (try (exfalso; first | omega | (cases hb; done)))))
  refine VC.conv (Sim.ghost 7 1 (fun i => .int .i64 (([] : List Int).getD i 0)) (by rfl) (.inl rfl)) ?_
  refine VC.loop (fun k : Nat => ⟨[(9, .int .i64 (k : Nat)), (8, .int .i64 (listTo l a n k).2), (7, .sl 0 [] 1 0 (listTo l a n k).1.length), (2, .int .i64 n), (1, .int .i64 a), (0, intsV l)], [(0, intO (listTo l a n k).1)], [], 1⟩) (fun k => (k : Int) ≤ m) (fun k => m.toNat - k) 0 (by omega) (by
    refine Sim.less [] (by rfl) ?_ ?_ <;> (repeat' (first | exact EnvLe.nil | exact HeapLe.nil | with_reducible apply EnvLe.cons | with_reducible apply HeapLe.cons | (with_reducible refine RelA.int ?_; first | (refine Keep.mk ?_; first | with_reducible rfl | omega | decide) | skip) | exact rfl | exact ⟨rfl, rfl⟩ | (with_reducible refine RelA.rsl ?_; intro i hi) | (with_reducible refine RelA.arr ?_; intro i hi) | with_reducible refine RelA.pair ?_ ?_ | with_reducible refine RelA.rptr ?_ | (with_reducible refine RelA.rslw ?_; intro i hi) | (refine RelA.rsl ?_; intro i hi) | (refine RelA.rslw ?_; intro i hi) | (refine RelA.arr ?_; intro i hi) | refine RelA.pair ?_ ?_ | refine RelA.tup ?_ | ((first | refine RelA.rslL (by first | rfl | ((try simp only [List.length_take, List.length_drop, List.length_append, List.length_cons, List.length_nil, List.length_map, List.length_range]); omega)) ?_ | refine RelA.rslT (by first | rfl | ((try simp only [List.length_take, List.length_drop, List.length_append, List.length_cons, List.length_nil, List.length_map, List.length_range]); omega)) ?_ | refine RelA.arrL (by first | rfl | ((try simp only [List.length_take, List.length_drop, List.length_append, List.length_cons, List.length_nil, List.length_map, List.length_range]); omega)) ?_); intro i hi; (try simp only [List.length_take, List.length_drop] at hi); (try simp (disch := omega) only [getD_take, getD_drop, Nat.zero_add, Int.toNat_natCast])) | exact RelA.bif_int | refine RelA.fn ?_ ?_ | exact NoId.self (by first | ((repeat' (first | exact trivial | exact rfl | refine NoFr.bif ?_ ?_ | refine NoId.bif ?_ ?_ | refine AllFr.bif ?_ ?_ | (intro i hi) | (refine ⟨?_, ?_⟩) | (intro e; cases e; done))); done) | fail))) <;> (try with_reducible refine Keep.mk ?_)
    all_goals exact rfl) fun k hk => ?_
  obtain ⟨b1, b2, b3⟩ := hbd k
  have c1 := c1 k
  have h3 := h3 k
  have hstep := hstep k
  by_cases hkm : (k : Int) < m
  · generalize hT2 : listTo l a n (k + 1) = T2 at *
    generalize listTo l a n k = T at *
    generalize atI l (a + 1 + k) 3 = x at *
    repeat' (first | (refine SS_ ?_) | (refine Seq.callp false (cz) Try.func10 GOk.nil subG.nil (by rfl) (by rfl) rfl rfl rfl rfl rfl (by rfl) rfl VW_ NI_ NI_ FR_ ?_) | (refine Seq.callp false (c1) Try.func10 GOk.nil subG.nil (by rfl) (by rfl) rfl rfl rfl rfl rfl (by rfl) rfl VW_ NI_ NI_ FR_ ?_) | (refine Seq.lit (by rfl) (by rfl) LT2_ ?_) | (refine VC.litT (by rfl) LTR_ ?_) | (refine VC.litF (by rfl) LFA_ ?_) | (refine DD_ ?_) | (refine DSeq.lit2 (by rfl) (by rfl) (by rfl) LT2_ (by rfl) ?_) | ((refine retQ_ok (by rfl) [] nil_sub ⟨?_, rfl⟩); try rfl) | (refine Seq.litC (by rfl) (by rfl) (fun hb => ?_) (fun hb => ?_) <;> (fail_if_success (with_reducible have := litT_ hb)) <;> (fail_if_success (with_reducible have := litF_ hb)) <;> (try simp only [decide_eq_true_eq, decide_eq_false_iff_not, Bool.not_eq_true', Bool.not_eq_false', Bool.or_eq_true, Bool.or_eq_false_iff, Bool.and_eq_true, Bool.and_eq_false_iff] at hb) <;> (try (exfalso; first | omega | (cases hb; done)))) | (refine VC.cond (by rfl) (fun hb => ?_) (fun hb => ?_) <;> (fail_if_success (with_reducible have := litT_ hb)) <;> (fail_if_success (with_reducible have := litF_ hb)) <;> (try simp only [decide_eq_true_eq, decide_eq_false_iff_not, Bool.not_eq_true', Bool.not_eq_false', Bool.or_eq_true, Bool.or_eq_false_iff, Bool.and_eq_true, Bool.and_eq_false_iff] at hb) <;> (try (exfalso; first | omega | (cases hb; done)))) | (refine DSeq.litC2 (by rfl) (by rfl) (by rfl) (by rfl) (by rfl) (fun hb => ?_) (fun hb => ?_) <;> (fail_if_success (with_reducible have := litT_ hb)) <;> (fail_if_success (with_reducible have := litF_ hb)) <;> (try simp only [decide_eq_true_eq, decide_eq_false_iff_not, Bool.not_eq_true', Bool.not_eq_false', Bool.or_eq_true, Bool.or_eq_false_iff, Bool.and_eq_true, Bool.and_eq_false_iff] at hb) <;> (try (exfalso; first | omega | (cases hb; done)))))
    · rw [if_pos hb] at hstep
      refine ⟨k + 1, by omega, by omega, ?_⟩
      rw [hT2, hstep]
      show ∀ a_1 w, _ → Sim _ ⟨[(9, .int .i64 ((k + 1 : Nat) : Int)), (8, .int .i64 (T.2 + 1 + x)), (7, .sl 0 [] 1 0 (T.1 ++ [T.2 + 1 + x]).length), (2, .int .i64 n), (1, .int .i64 a), (0, intsV l)], [(0, .arr (T.1 ++ [T.2 + 1 + x]).length 1 (fun i => .int .i64 ((T.1 ++ [T.2 + 1 + x]).getD i 0)))], [], 1⟩ a_1 w
      rw [List.length_append, List.length_singleton]
      refine Sim.less [(0, 2)] (by rfl) ?_ ?_ <;> (repeat' (first | exact EnvLe.nil | exact HeapLe.nil | with_reducible apply EnvLe.cons | with_reducible apply HeapLe.cons | (with_reducible refine RelA.int ?_; first | (refine Keep.mk ?_; first | with_reducible rfl | omega | decide) | skip) | exact rfl | exact ⟨rfl, rfl⟩ | (with_reducible refine RelA.rsl ?_; intro i hi) | (with_reducible refine RelA.arr ?_; intro i hi) | with_reducible refine RelA.pair ?_ ?_ | with_reducible refine RelA.rptr ?_ | (with_reducible refine RelA.rslw ?_; intro i hi) | (refine RelA.rsl ?_; intro i hi) | (refine RelA.rslw ?_; intro i hi) | (refine RelA.arr ?_; intro i hi) | refine RelA.pair ?_ ?_ | refine RelA.tup ?_ | ((first | refine RelA.rslL (by first | rfl | ((try simp only [List.length_take, List.length_drop, List.length_append, List.length_cons, List.length_nil, List.length_map, List.length_range]); omega)) ?_ | refine RelA.rslT (by first | rfl | ((try simp only [List.length_take, List.length_drop, List.length_append, List.length_cons, List.length_nil, List.length_map, List.length_range]); omega)) ?_ | refine RelA.arrL (by first | rfl | ((try simp only [List.length_take, List.length_drop, List.length_append, List.length_cons, List.length_nil, List.length_map, List.length_range]); omega)) ?_); intro i hi; (try simp only [List.length_take, List.length_drop] at hi); (try simp (disch := omega) only [getD_take, getD_drop, Nat.zero_add, Int.toNat_natCast])) | exact RelA.bif_int | refine RelA.fn ?_ ?_ | exact NoId.self (by first | ((repeat' (first | exact trivial | exact rfl | refine NoFr.bif ?_ ?_ | refine NoId.bif ?_ ?_ | refine AllFr.bif ?_ ?_ | (intro i hi) | (refine ⟨?_, ?_⟩) | (intro e; cases e; done))); done) | fail))) <;> (try with_reducible refine Keep.mk ?_)
      exact rel_snoc hi
    · rw [if_neg hb] at hstep
      refine ⟨k + 1, by omega, by omega, ?_⟩
      rw [hT2, hstep]
      show ∀ a_1 w, _ → Sim _ ⟨[(9, .int .i64 ((k + 1 : Nat) : Int)), (8, .int .i64 (T.2 + 1 + x)), (7, .sl 0 [] 1 0 T.1.length), (2, .int .i64 n), (1, .int .i64 a), (0, intsV l)], [(0, intO T.1)], [], 1⟩ a_1 w
      refine Sim.less [] (by rfl) ?_ ?_ <;> (repeat' (first | exact EnvLe.nil | exact HeapLe.nil | with_reducible apply EnvLe.cons | with_reducible apply HeapLe.cons | (with_reducible refine RelA.int ?_; first | (refine Keep.mk ?_; first | with_reducible rfl | omega | decide) | skip) | exact rfl | exact ⟨rfl, rfl⟩ | (with_reducible refine RelA.rsl ?_; intro i hi) | (with_reducible refine RelA.arr ?_; intro i hi) | with_reducible refine RelA.pair ?_ ?_ | with_reducible refine RelA.rptr ?_ | (with_reducible refine RelA.rslw ?_; intro i hi) | (refine RelA.rsl ?_; intro i hi) | (refine RelA.rslw ?_; intro i hi) | (refine RelA.arr ?_; intro i hi) | refine RelA.pair ?_ ?_ | refine RelA.tup ?_ | ((first | refine RelA.rslL (by first | rfl | ((try simp only [List.length_take, List.length_drop, List.length_append, List.length_cons, List.length_nil, List.length_map, List.length_range]); omega)) ?_ | refine RelA.rslT (by first | rfl | ((try simp only [List.length_take, List.length_drop, List.length_append, List.length_cons, List.length_nil, List.length_map, List.length_range]); omega)) ?_ | refine RelA.arrL (by first | rfl | ((try simp only [List.length_take, List.length_drop, List.length_append, List.length_cons, List.length_nil, List.length_map, List.length_range]); omega)) ?_); intro i hi; (try simp only [List.length_take, List.length_drop] at hi); (try simp (disch := omega) only [getD_take, getD_drop, Nat.zero_add, Int.toNat_natCast])) | exact RelA.bif_int | refine RelA.fn ?_ ?_ | exact NoId.self (by first | ((repeat' (first | exact trivial | exact rfl | refine NoFr.bif ?_ ?_ | refine NoId.bif ?_ ?_ | refine AllFr.bif ?_ ?_ | (intro i hi) | (refine ⟨?_, ?_⟩) | (intro e; cases e; done))); done) | fail))) <;> (try with_reducible refine Keep.mk ?_)
  · obtain rfl : k = m.toNat := by omega
    generalize listTo l a n m.toNat = T at *
    repeat' (first | (refine SS_ ?_) | (refine Seq.callp false (cz) Try.func10 GOk.nil subG.nil (by rfl) (by rfl) rfl rfl rfl rfl rfl (by rfl) rfl VW_ NI_ NI_ FR_ ?_) | (refine Seq.lit (by rfl) (by rfl) LT2_ ?_) | (refine VC.litT (by rfl) LTR_ ?_) | (refine VC.litF (by rfl) LFA_ ?_) | (refine DD_ ?_) | (refine DSeq.lit2 (by rfl) (by rfl) (by rfl) LT2_ (by rfl) ?_) | ((refine retQ_ok (by rfl) [] nil_sub ⟨?_, rfl⟩); try rfl) | (refine Seq.litC (by rfl) (by rfl) (fun hb => ?_) (fun hb => ?_) <;> (fail_if_success (with_reducible have := litT_ hb)) <;> (fail_if_success (with_reducible have := litF_ hb)) <;> (try simp only [decide_eq_true_eq, decide_eq_false_iff_not, Bool.not_eq_true', Bool.not_eq_false', Bool.or_eq_true, Bool.or_eq_false_iff, Bool.and_eq_true, Bool.and_eq_false_iff] at hb) <;> (try (exfalso; first | omega | (cases hb; done)))) | (refine VC.cond (by rfl) (fun hb => ?_) (fun hb => ?_) <;> (fail_if_success (with_reducible have := litT_ hb)) <;> (fail_if_success (with_reducible have := litF_ hb)) <;> (try simp only [decide_eq_true_eq, decide_eq_false_iff_not, Bool.not_eq_true', Bool.not_eq_false', Bool.or_eq_true, Bool.or_eq_false_iff, Bool.and_eq_true, Bool.and_eq_false_iff] at hb) <;> (try (exfalso; first | omega | (cases hb; done)))) | (refine DSeq.litC2 (by rfl) (by rfl) (by rfl) (by rfl) (by rfl) (fun hb => ?_) (fun hb => ?_) <;> (fail_if_success (with_reducible have := litT_ hb)) <;> (fail_if_success (with_reducible have := litF_ hb)) <;> (try simp only [decide_eq_true_eq, decide_eq_false_iff_not, Bool.not_eq_true', Bool.not_eq_false', Bool.or_eq_true, Bool.or_eq_false_iff, Bool.and_eq_true, Bool.and_eq_false_iff] at hb) <;> (try (exfalso; first | omega | (cases hb; done)))))
    refine retC_conv (Sim.stillV (e' := [(6, intsV T.1)]) (h' := []) [0] (by rfl) (by repeat' (first | exact HeapV.nil | refine HeapV.cons (by rfl) VW_ NI_ (by rfl) ?_)) (by repeat' (first | exact EnvV.nil | refine EnvV.cons (by rfl) VW_ NI_ ?_))) ?_
    (refine retC_mk ([(6, intsV T.1)]) ([]) 1 (Sim.less [] (by rfl) R_ R_) (retQ_ok (by rfl) ([]) (fun i av h => h) ⟨?_, ?_⟩)) <;> rfl
end Go.Proofs.Ytnjchlggjdoboaa
