
/- Books of consent: what stays; Around and At. -/
import Derived.Test.YtnjchlggjdoboaaCj
set_option linter.unusedSimpArgs false
set_option linter.unusedVariables false
namespace Go.Cs
theorem inc_len : ∀ {l : List Int} {a b : Int}, l.Pairwise (· < ·) → (∀ x ∈ l, a ≤ x ∧ x < b) → l.length ≤ (b - a).toNat
  | [], a, b, _, _ => Nat.zero_le _
  | x :: r, a, b, h, hx => by
    rw [List.pairwise_cons] at h
    have h1 := hx x List.mem_cons_self
    have := inc_len (l := r) (a := x + 1) (b := b) h.2 fun y hy => ⟨by have := h.1 y hy; omega, (hx y (List.mem_cons_of_mem _ hy)).2⟩
    rw [List.length_cons]; omega
theorem base_len {b : Bk} (hb : BOk b) (i : Int) : (baseAt b.E i).length ≤ 65536 := by
  unfold baseAt
  rcases Nat.lt_or_ge i.toNat b.E.length with h | h
  · obtain ⟨h1, h2⟩ := hb.q _ h
    have := inc_len (a := 0) (b := 65536) h1 h2
    omega
  · rw [List.getD_eq_getElem?_getD, List.getElem?_eq_none h]; decide
theorem base_in {b : Bk} (hb : BOk b) (i : Int) : ∀ x ∈ baseAt b.E i, 0 ≤ x ∧ x < 65536 := by
  unfold baseAt
  rcases Nat.lt_or_ge i.toNat b.E.length with h | h
  · exact (hb.q _ h).2
  · rw [List.getD_eq_getElem?_getD, List.getElem?_eq_none h]; intro x hx; cases hx
theorem rise_len {n : Nat} {l : List Int} (h : risP (-1) n l = true) : l.length ≤ n := by
  obtain ⟨h1, h2⟩ := risP_all h
  have := inc_len (a := 0) (b := n) h1 fun x hx => ⟨by have := h2 x hx; omega, (h2 x hx).2⟩
  omega
theorem baseOf_in {b : Bk} (hb : BOk b) {F P : List Int} (hP : ∀ x ∈ P, 0 ≤ x ∧ x < 65536) : ∀ x ∈ baseOf b.E F P, 0 ≤ x ∧ x < 65536 := by
  intro x hx
  unfold baseOf at hx
  rw [uniq_mem, List.mem_append, List.mem_flatten] at hx
  rcases hx with hx | ⟨l, hl, hx⟩
  · exact hP x hx
  · obtain ⟨i, _, rfl⟩ := List.mem_map.1 hl
    exact base_in hb i x hx
theorem good_new : BOk bk0 := ⟨by decide, fun k hk => (by cases hk), fun k hk => (by cases hk), fun k hk => (by cases hk), List.nodup_nil, fun x hx => (by cases hx)⟩
theorem mkE_zero {b : Bk} {F P : List Int} (h : mkE b F P = 0) : b.E.length < 256 ∧ P.length ≤ 512 ∧ risP (-1) b.E.length F = true ∧ risP (-1) 65536 P = true ∧ denied b.R P = false ∧ stale b.E F = false := by
  unfold mkE at h
  split at h
  · cases h
  rename_i h1
  split at h
  · cases h
  rename_i h2
  split at h
  · cases h
  rename_i h3
  split at h
  · cases h
  rename_i h4
  refine ⟨by omega, by omega, ?_, ?_, by simpa using h3, by simpa using h4⟩
  · cases e : risP (-1) b.E.length F with
    | true => rfl
    | false => exact absurd (.inl e) h2
  · cases e : risP (-1) 65536 P with
    | true => rfl
    | false => exact absurd (.inr e) h2
theorem good_mk {b : Bk} (hb : BOk b) (F P : List Int) : BOk (mkB b F P) := by
  unfold mkB
  split
  · rename_i h
    obtain ⟨h1, h2, h3, h4, h5, h6⟩ := mkE_zero h
    obtain ⟨p1, p2⟩ := risP_all h3
    obtain ⟨q1, q2⟩ := risP_all h4
    have hP : ∀ x ∈ P, 0 ≤ x ∧ x < 65536 := fun x hx => ⟨by have := q2 x hx; omega, (q2 x hx).2⟩
    have hlen : (b.E ++ [(⟨F, P, baseOf b.E F P, true⟩ : Ent)]).length = b.E.length + 1 := by simp
    have hget : ∀ k, k < b.E.length + 1 → (b.E ++ [(⟨F, P, baseOf b.E F P, true⟩ : Ent)]).getD k entZ = if k < b.E.length then b.E.getD k entZ else ⟨F, P, baseOf b.E F P, true⟩ := fun k hk => by
      by_cases hk2 : k < b.E.length
      · rw [if_pos hk2, app_lt hk2]
      · rw [if_neg hk2, show k = b.E.length by omega, app_eq]
    refine ⟨by show (b.E ++ _).length ≤ 256; rw [hlen]; omega, fun k hk => ?_, fun k hk => ?_, fun k hk => ?_, hb.r⟩
    all_goals
      have hk : k < b.E.length + 1 := hlen ▸ hk
      show _ ∧ _
      rw [hget k hk]
    · split
      · rename_i h; exact hb.f k h
      · exact ⟨p1, fun x hx => ⟨by have := p2 x hx; omega, by have := p2 x hx; omega⟩⟩
    · split
      · rename_i h; exact hb.p k h
      · exact ⟨q1, h2, hP⟩
    · split
      · rename_i h; exact hb.q k h
      · exact ⟨uniq_inc _, baseOf_in hb hP⟩
  · exact hb
def absI (n : Int) : Int := if n < 0 then -(n + 1) else n
def aroundI (n m : Int) : Int := if m < 1 then 0 else absI n % m
theorem around_lt (n m : Int) (h : 1 ≤ m) : 0 ≤ aroundI n m ∧ aroundI n m < m := by
  unfold aroundI
  rw [if_neg (by omega)]
  exact ⟨Int.emod_nonneg _ (by omega), Int.emod_lt_of_pos _ (by omega)⟩
def atI (l : List Int) (i : Int) (m : Int) : Int := if i < 0 ∨ (l.length : Int) ≤ i then 0 else aroundI (l.getD i.toNat 0) m
theorem at_lt (l : List Int) (i : Int) (m : Int) (h : 1 ≤ m) : 0 ≤ atI l i m ∧ atI l i m < m := by
  unfold atI
  split
  · omega
  · exact around_lt _ _ h
def IOk (l : List Int) : Prop := l.length ≤ 9223372036854775807 ∧ ∀ x ∈ l, -9223372036854775808 ≤ x ∧ x ≤ 9223372036854775807
theorem IOk.get {l : List Int} (h : IOk l) (i : Nat) : -9223372036854775808 ≤ l.getD i 0 ∧ l.getD i 0 ≤ 9223372036854775807 := by
  rcases Nat.lt_or_ge i l.length with hi | hi
  · rw [List.getD_eq_getElem?_getD, List.getElem?_eq_getElem hi]; exact h.2 _ (List.getElem_mem hi)
  · rw [List.getD_eq_getElem?_getD, List.getElem?_eq_none hi]; exact ⟨by decide, by decide⟩
end Go.Cs
namespace Go.Proofs.Ytnjchlggjdoboaa
open Go.V Go.RowKit Go.L Go.Cs Go.Dk
set_option maxRecDepth 10000
set_option maxHeartbeats 2000000
theorem around_ok (n m : Int) (hn : -9223372036854775808 ≤ n ∧ n ≤ 9223372036854775807) : Ok Try.prog 9 [] [] (.pair (.int .i64 n) (.pair (.int .i64 m) .nul)) (fun r h' => r = .int .i64 (aroundI n m) ∧ h' = []) := by
  obtain ⟨n1, n2⟩ := hn
  unfold aroundI absI
  by_cases hneg : n < 0
  · rw [if_pos hneg]
    by_cases hm : m < 1
    · rw [if_pos hm]
      refine Ok.of_vcC tt_ok Try.func9 rfl rfl (by show 2 ≤ _; decide) 0 (hlt_ok (by rfl)) fun c0 => ?_
      repeat' (first | (refine SS_ ?_) | (done) | (refine Seq.lit (by rfl) (by rfl) LT2_ ?_) | (refine VC.litT (by rfl) LTR_ ?_) | (refine VC.litF (by rfl) LFA_ ?_) | (refine DD_ ?_) | (refine DSeq.lit2 (by rfl) (by rfl) (by rfl) LT2_ (by rfl) ?_) | ((refine retQ_ok (by rfl) [] nil_sub ⟨?_, rfl⟩); try rfl) | (refine Seq.litC (by rfl) (by rfl) (fun hb => ?_) (fun hb => ?_) <;> (fail_if_success (with_reducible have := litT_ hb)) <;> (fail_if_success (with_reducible have := litF_ hb)) <;> (try simp only [decide_eq_true_eq, decide_eq_false_iff_not, Bool.not_eq_true', Bool.not_eq_false', Bool.or_eq_true, Bool.or_eq_false_iff, Bool.and_eq_true, Bool.and_eq_false_iff] at hb) <;> (try (exfalso; first | omega | (cases hb; done)))) | (refine VC.cond (by rfl) (fun hb => ?_) (fun hb => ?_) <;> (fail_if_success (with_reducible have := litT_ hb)) <;> (fail_if_success (with_reducible have := litF_ hb)) <;> (try simp only [decide_eq_true_eq, decide_eq_false_iff_not, Bool.not_eq_true', Bool.not_eq_false', Bool.or_eq_true, Bool.or_eq_false_iff, Bool.and_eq_true, Bool.and_eq_false_iff] at hb) <;> (try (exfalso; first | omega | (cases hb; done)))) | (refine DSeq.litC2 (by rfl) (by rfl) (by rfl) (by rfl) (by rfl) (fun hb => ?_) (fun hb => ?_) <;> (fail_if_success (with_reducible have := litT_ hb)) <;> (fail_if_success (with_reducible have := litF_ hb)) <;> (try simp only [decide_eq_true_eq, decide_eq_false_iff_not, Bool.not_eq_true', Bool.not_eq_false', Bool.or_eq_true, Bool.or_eq_false_iff, Bool.and_eq_true, Bool.and_eq_false_iff] at hb) <;> (try (exfalso; first | omega | (cases hb; done)))))
      (refine retC_mk ([(4, .int .i64 0)]) ([]) 0 (Sim.less [] (by rfl) R_ R_) (retQ_ok (by rfl) ([]) (fun i av h => h) ⟨?_, ?_⟩)) <;> rfl
    · rw [if_neg hm]
      refine Ok.of_vcC tt_ok Try.func9 rfl rfl (by show 2 ≤ _; decide) 0 (hlt_ok (by rfl)) fun c0 => ?_
      repeat' (first | (refine SS_ ?_) | (done) | (refine Seq.lit (by rfl) (by rfl) LT2_ ?_) | (refine VC.litT (by rfl) LTR_ ?_) | (refine VC.litF (by rfl) LFA_ ?_) | (refine DD_ ?_) | (refine DSeq.lit2 (by rfl) (by rfl) (by rfl) LT2_ (by rfl) ?_) | ((refine retQ_ok (by rfl) [] nil_sub ⟨?_, rfl⟩); try rfl) | (refine Seq.litC (by rfl) (by rfl) (fun hb => ?_) (fun hb => ?_) <;> (fail_if_success (with_reducible have := litT_ hb)) <;> (fail_if_success (with_reducible have := litF_ hb)) <;> (try simp only [decide_eq_true_eq, decide_eq_false_iff_not, Bool.not_eq_true', Bool.not_eq_false', Bool.or_eq_true, Bool.or_eq_false_iff, Bool.and_eq_true, Bool.and_eq_false_iff] at hb) <;> (try (exfalso; first | omega | (cases hb; done)))) | (refine VC.cond (by rfl) (fun hb => ?_) (fun hb => ?_) <;> (fail_if_success (with_reducible have := litT_ hb)) <;> (fail_if_success (with_reducible have := litF_ hb)) <;> (try simp only [decide_eq_true_eq, decide_eq_false_iff_not, Bool.not_eq_true', Bool.not_eq_false', Bool.or_eq_true, Bool.or_eq_false_iff, Bool.and_eq_true, Bool.and_eq_false_iff] at hb) <;> (try (exfalso; first | omega | (cases hb; done)))) | (refine DSeq.litC2 (by rfl) (by rfl) (by rfl) (by rfl) (by rfl) (fun hb => ?_) (fun hb => ?_) <;> (fail_if_success (with_reducible have := litT_ hb)) <;> (fail_if_success (with_reducible have := litF_ hb)) <;> (try simp only [decide_eq_true_eq, decide_eq_false_iff_not, Bool.not_eq_true', Bool.not_eq_false', Bool.or_eq_true, Bool.or_eq_false_iff, Bool.and_eq_true, Bool.and_eq_false_iff] at hb) <;> (try (exfalso; first | omega | (cases hb; done)))))
      (refine retC_mk ([(4, .int .i64 ((0 - (n + 1)) % m))]) ([]) 0 (Sim.less [] (by rfl) R_ R_) (retQ_ok (by rfl) ([]) (fun i av h => h) ⟨?_, ?_⟩)) <;> first | rfl | (rw [Int.zero_sub])
  · rw [if_neg hneg]
    by_cases hm : m < 1
    · rw [if_pos hm]
      refine Ok.of_vcC tt_ok Try.func9 rfl rfl (by show 2 ≤ _; decide) 0 (hlt_ok (by rfl)) fun c0 => ?_
      repeat' (first | (refine SS_ ?_) | (done) | (refine Seq.lit (by rfl) (by rfl) LT2_ ?_) | (refine VC.litT (by rfl) LTR_ ?_) | (refine VC.litF (by rfl) LFA_ ?_) | (refine DD_ ?_) | (refine DSeq.lit2 (by rfl) (by rfl) (by rfl) LT2_ (by rfl) ?_) | ((refine retQ_ok (by rfl) [] nil_sub ⟨?_, rfl⟩); try rfl) | (refine Seq.litC (by rfl) (by rfl) (fun hb => ?_) (fun hb => ?_) <;> (fail_if_success (with_reducible have := litT_ hb)) <;> (fail_if_success (with_reducible have := litF_ hb)) <;> (try simp only [decide_eq_true_eq, decide_eq_false_iff_not, Bool.not_eq_true', Bool.not_eq_false', Bool.or_eq_true, Bool.or_eq_false_iff, Bool.and_eq_true, Bool.and_eq_false_iff] at hb) <;> (try (exfalso; first | omega | (cases hb; done)))) | (refine VC.cond (by rfl) (fun hb => ?_) (fun hb => ?_) <;> (fail_if_success (with_reducible have := litT_ hb)) <;> (fail_if_success (with_reducible have := litF_ hb)) <;> (try simp only [decide_eq_true_eq, decide_eq_false_iff_not, Bool.not_eq_true', Bool.not_eq_false', Bool.or_eq_true, Bool.or_eq_false_iff, Bool.and_eq_true, Bool.and_eq_false_iff] at hb) <;> (try (exfalso; first | omega | (cases hb; done)))) | (refine DSeq.litC2 (by rfl) (by rfl) (by rfl) (by rfl) (by rfl) (fun hb => ?_) (fun hb => ?_) <;> (fail_if_success (with_reducible have := litT_ hb)) <;> (fail_if_success (with_reducible have := litF_ hb)) <;> (try simp only [decide_eq_true_eq, decide_eq_false_iff_not, Bool.not_eq_true', Bool.not_eq_false', Bool.or_eq_true, Bool.or_eq_false_iff, Bool.and_eq_true, Bool.and_eq_false_iff] at hb) <;> (try (exfalso; first | omega | (cases hb; done)))))
      (refine retC_mk ([(4, .int .i64 0)]) ([]) 0 (Sim.less [] (by rfl) R_ R_) (retQ_ok (by rfl) ([]) (fun i av h => h) ⟨?_, ?_⟩)) <;> rfl
    · rw [if_neg hm]
      refine Ok.of_vcC tt_ok Try.func9 rfl rfl (by show 2 ≤ _; decide) 0 (hlt_ok (by rfl)) fun c0 => ?_
      repeat' (first | (refine SS_ ?_) | (done) | (refine Seq.lit (by rfl) (by rfl) LT2_ ?_) | (refine VC.litT (by rfl) LTR_ ?_) | (refine VC.litF (by rfl) LFA_ ?_) | (refine DD_ ?_) | (refine DSeq.lit2 (by rfl) (by rfl) (by rfl) LT2_ (by rfl) ?_) | ((refine retQ_ok (by rfl) [] nil_sub ⟨?_, rfl⟩); try rfl) | (refine Seq.litC (by rfl) (by rfl) (fun hb => ?_) (fun hb => ?_) <;> (fail_if_success (with_reducible have := litT_ hb)) <;> (fail_if_success (with_reducible have := litF_ hb)) <;> (try simp only [decide_eq_true_eq, decide_eq_false_iff_not, Bool.not_eq_true', Bool.not_eq_false', Bool.or_eq_true, Bool.or_eq_false_iff, Bool.and_eq_true, Bool.and_eq_false_iff] at hb) <;> (try (exfalso; first | omega | (cases hb; done)))) | (refine VC.cond (by rfl) (fun hb => ?_) (fun hb => ?_) <;> (fail_if_success (with_reducible have := litT_ hb)) <;> (fail_if_success (with_reducible have := litF_ hb)) <;> (try simp only [decide_eq_true_eq, decide_eq_false_iff_not, Bool.not_eq_true', Bool.not_eq_false', Bool.or_eq_true, Bool.or_eq_false_iff, Bool.and_eq_true, Bool.and_eq_false_iff] at hb) <;> (try (exfalso; first | omega | (cases hb; done)))) | (refine DSeq.litC2 (by rfl) (by rfl) (by rfl) (by rfl) (by rfl) (fun hb => ?_) (fun hb => ?_) <;> (fail_if_success (with_reducible have := litT_ hb)) <;> (fail_if_success (with_reducible have := litF_ hb)) <;> (try simp only [decide_eq_true_eq, decide_eq_false_iff_not, Bool.not_eq_true', Bool.not_eq_false', Bool.or_eq_true, Bool.or_eq_false_iff, Bool.and_eq_true, Bool.and_eq_false_iff] at hb) <;> (try (exfalso; first | omega | (cases hb; done)))))
      (refine retC_mk ([(4, .int .i64 (n % m))]) ([]) 0 (Sim.less [] (by rfl) R_ R_) (retQ_ok (by rfl) ([]) (fun i av h => h) ⟨?_, ?_⟩)) <;> rfl
theorem at_ok (l : List Int) (hl : IOk l) (i m : Int) : Ok Try.prog 10 [] [] (.pair (intsV l) (.pair (.int .i64 i) (.pair (.int .i64 m) .nul))) (fun r h' => r = .int .i64 (atI l i m) ∧ h' = []) := by
  have hl1 := hl.1
  have c1 := around_ok (l.getD i.toNat 0) m (hl.get _)
  unfold atI
  by_cases h : i < 0 ∨ (l.length : Int) ≤ i
  · rw [if_pos h]
    refine Ok.of_vcC tt_ok Try.func10 rfl rfl (by show 3 ≤ _; decide) 0 (hlt_ok (by rfl)) fun c0 => ?_
    repeat' (first | (refine SS_ ?_) | (done) | (refine Seq.lit (by rfl) (by rfl) LT2_ ?_) | (refine VC.litT (by rfl) LTR_ ?_) | (refine VC.litF (by rfl) LFA_ ?_) | (refine DD_ ?_) | (refine DSeq.lit2 (by rfl) (by rfl) (by rfl) LT2_ (by rfl) ?_) | ((refine retQ_ok (by rfl) [] nil_sub ⟨?_, rfl⟩); try rfl) | (refine Seq.litC (by rfl) (by rfl) (fun hb => ?_) (fun hb => ?_) <;> (fail_if_success (with_reducible have := litT_ hb)) <;> (fail_if_success (with_reducible have := litF_ hb)) <;> (try simp only [decide_eq_true_eq, decide_eq_false_iff_not, Bool.not_eq_true', Bool.not_eq_false', Bool.or_eq_true, Bool.or_eq_false_iff, Bool.and_eq_true, Bool.and_eq_false_iff] at hb) <;> (try (exfalso; first | omega | (cases hb; done)))) | (refine VC.cond (by rfl) (fun hb => ?_) (fun hb => ?_) <;> (fail_if_success (with_reducible have := litT_ hb)) <;> (fail_if_success (with_reducible have := litF_ hb)) <;> (try simp only [decide_eq_true_eq, decide_eq_false_iff_not, Bool.not_eq_true', Bool.not_eq_false', Bool.or_eq_true, Bool.or_eq_false_iff, Bool.and_eq_true, Bool.and_eq_false_iff] at hb) <;> (try (exfalso; first | omega | (cases hb; done)))) | (refine DSeq.litC2 (by rfl) (by rfl) (by rfl) (by rfl) (by rfl) (fun hb => ?_) (fun hb => ?_) <;> (fail_if_success (with_reducible have := litT_ hb)) <;> (fail_if_success (with_reducible have := litF_ hb)) <;> (try simp only [decide_eq_true_eq, decide_eq_false_iff_not, Bool.not_eq_true', Bool.not_eq_false', Bool.or_eq_true, Bool.or_eq_false_iff, Bool.and_eq_true, Bool.and_eq_false_iff] at hb) <;> (try (exfalso; first | omega | (cases hb; done)))))
    all_goals ((refine retC_mk ([(6, .int .i64 0)]) ([]) 0 (Sim.less [] (by rfl) R_ R_) (retQ_ok (by rfl) ([]) (fun i av h => h) ⟨?_, ?_⟩)) <;> rfl)
  · rw [if_neg h]
    generalize aroundI (l.getD i.toNat 0) m = z at *
    refine Ok.of_vcC tt_ok Try.func10 rfl rfl (by show 3 ≤ _; decide) 0 (hlt_ok (by rfl)) fun c0 => ?_
    repeat' (first | (refine SS_ ?_) | (refine Seq.callp false (c1) Try.func9 GOk.nil subG.nil (by rfl) (by rfl) rfl rfl rfl rfl rfl (by rfl) rfl VW_ NI_ NI_ FR_ ?_) | (refine Seq.lit (by rfl) (by rfl) LT2_ ?_) | (refine VC.litT (by rfl) LTR_ ?_) | (refine VC.litF (by rfl) LFA_ ?_) | (refine DD_ ?_) | (refine DSeq.lit2 (by rfl) (by rfl) (by rfl) LT2_ (by rfl) ?_) | ((refine retQ_ok (by rfl) [] nil_sub ⟨?_, rfl⟩); try rfl) | (refine Seq.litC (by rfl) (by rfl) (fun hb => ?_) (fun hb => ?_) <;> (fail_if_success (with_reducible have := litT_ hb)) <;> (fail_if_success (with_reducible have := litF_ hb)) <;> (try simp only [decide_eq_true_eq, decide_eq_false_iff_not, Bool.not_eq_true', Bool.not_eq_false', Bool.or_eq_true, Bool.or_eq_false_iff, Bool.and_eq_true, Bool.and_eq_false_iff] at hb) <;> (try (exfalso; first | omega | (cases hb; done)))) | (refine VC.cond (by rfl) (fun hb => ?_) (fun hb => ?_) <;> (fail_if_success (with_reducible have := litT_ hb)) <;> (fail_if_success (with_reducible have := litF_ hb)) <;> (try simp only [decide_eq_true_eq, decide_eq_false_iff_not, Bool.not_eq_true', Bool.not_eq_false', Bool.or_eq_true, Bool.or_eq_false_iff, Bool.and_eq_true, Bool.and_eq_false_iff] at hb) <;> (try (exfalso; first | omega | (cases hb; done)))) | (refine DSeq.litC2 (by rfl) (by rfl) (by rfl) (by rfl) (by rfl) (fun hb => ?_) (fun hb => ?_) <;> (fail_if_success (with_reducible have := litT_ hb)) <;> (fail_if_success (with_reducible have := litF_ hb)) <;> (try simp only [decide_eq_true_eq, decide_eq_false_iff_not, Bool.not_eq_true', Bool.not_eq_false', Bool.or_eq_true, Bool.or_eq_false_iff, Bool.and_eq_true, Bool.and_eq_false_iff] at hb) <;> (try (exfalso; first | omega | (cases hb; done)))))
    (refine retC_mk ([(6, .int .i64 z)]) ([]) 0 (Sim.less [] (by rfl) R_ R_) (retQ_ok (by rfl) ([]) (fun i av h => h) ⟨?_, ?_⟩)) <;> rfl
end Go.Proofs.Ytnjchlggjdoboaa
