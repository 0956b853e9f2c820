
/- Releases of neighbours: the plain law. -/
import Derived.Test.YtfiecjpoabnfnaaQo
set_option linter.unusedSimpArgs false
set_option linter.unusedVariables false
namespace Go.Rl
open Go.V Go.Lx
def cL (R : List Row) (f : Nat) (v : Int) : Nat := (R.filter fun r => decide (r.V.getD f 0 = v)).length
theorem cntTo_cL (R : List Row) (f : Nat) (v : Int) : ∀ i, i ≤ R.length → cntTo R f v i = cL (R.take i) f v
  | 0, _ => rfl
  | i + 1, h => by
    have ih := cntTo_cL R f v i (by omega)
    rw [cntTo, ih, take_snoc (d := rowZ) (by omega)]
    unfold cL
    rw [List.filter_append, List.length_append]
    by_cases hv : (R.getD i rowZ).V.getD f 0 = v
    · rw [if_pos hv, List.filter_cons_of_pos (by simpa using hv)]; rfl
    · rw [if_neg hv, List.filter_cons_of_neg (by simpa using hv)]; rfl
theorem cnt_cL (R : List Row) (f : Nat) (v : Int) : cnt R f v = cL R f v := by
  unfold cnt
  rw [cntTo_cL R f v _ (Nat.le_refl _), List.take_length]
def wos (R : List Row) (p : Int) : List Row := R.filter fun r => !decide (r.p = p)
theorem wos_same {R : List Row} {p : Int} (h : ∀ r ∈ R, r.p ≠ p) : wos R p = R := List.filter_eq_self.2 fun r hr => by simpa using h r hr
theorem wos_one : ∀ {R : List Row} {p : Int}, (ps R).Nodup → ∀ {r0 : Row}, r0 ∈ R → r0.p = p → R.length = (wos R p).length + 1 ∧ ∀ f v, cL R f v = cL (wos R p) f v + (if r0.V.getD f 0 = v then 1 else 0)
  | [], _, _, _, h, _ => by cases h
  | a :: t, p, hn, r0, h, hp => by
    have hn' : (a.p :: ps t).Nodup := hn
    rw [List.nodup_cons] at hn'
    have hcl : ∀ f v, cL (a :: t) f v = cL t f v + (if a.V.getD f 0 = v then 1 else 0) := fun f v => by
      unfold cL
      by_cases hv : a.V.getD f 0 = v
      · rw [if_pos hv, List.filter_cons_of_pos (by simpa using hv)]; rfl
      · rw [if_neg hv, List.filter_cons_of_neg (by simpa using hv)]; rfl
    by_cases ha : a.p = p
    · have ht : ∀ r ∈ t, r.p ≠ p := fun r hr e => hn'.1 (by rw [ha, ← e]; exact List.mem_map_of_mem hr)
      have e : wos (a :: t) p = t := by
        unfold wos
        rw [List.filter_cons_of_neg (by simpa using ha)]
        exact wos_same ht
      have e0 : r0 = a := by
        rcases List.mem_cons.1 h with h | h
        · exact h
        · exact absurd hp (ht r0 h)
      subst e0
      rw [e]
      exact ⟨rfl, fun f v => hcl f v⟩
    · have hr : r0 ∈ t := by
        rcases List.mem_cons.1 h with h | h
        · rw [h] at hp; exact absurd hp ha
        · exact h
      obtain ⟨i1, i2⟩ := wos_one hn'.2 hr hp
      have e : wos (a :: t) p = a :: wos t p := by
        unfold wos
        rw [List.filter_cons_of_pos (by simpa using ha)]
      rw [e]
      refine ⟨by rw [List.length_cons, List.length_cons, i1], fun f v => ?_⟩
      have h2 : cL (a :: wos t p) f v = cL (wos t p) f v + (if a.V.getD f 0 = v then 1 else 0) := by
        unfold cL
        by_cases hv : a.V.getD f 0 = v
        · rw [if_pos hv, List.filter_cons_of_pos (by simpa using hv)]; rfl
        · rw [if_neg hv, List.filter_cons_of_neg (by simpa using hv)]; rfl
      rw [hcl, i2, h2]; omega
/-- What a person has in a field; -1: the person is not in the table. -/
def hasTo (R : List Row) (p : Int) (f : Nat) : Nat → Int
  | 0 => -1
  | i + 1 => if (R.getD i rowZ).p = p then (R.getD i rowZ).V.getD f 0 else hasTo R p f i
theorem hasTo_or (R : List Row) (p : Int) (f : Nat) : ∀ i, i ≤ R.length → (∃ r0 ∈ R, r0.p = p ∧ hasTo R p f i = r0.V.getD f 0) ∨ ((∀ j, j < i → (R.getD j rowZ).p ≠ p) ∧ hasTo R p f i = -1)
  | 0, _ => .inr ⟨fun j hj => absurd hj (Nat.not_lt_zero _), rfl⟩
  | i + 1, h => by
    rw [hasTo]
    by_cases hp : (R.getD i rowZ).p = p
    · rw [if_pos hp]; exact .inl ⟨_, getD_mem (by omega), hp, rfl⟩
    · rw [if_neg hp]
      rcases hasTo_or R p f i (by omega) with h1 | ⟨h1, h2⟩
      · exact .inl h1
      · refine .inr ⟨fun j hj => ?_, h2⟩
        rcases Nat.lt_or_ge j i with h3 | h3
        · exact h1 j h3
        · obtain rfl : j = i := by omega
          exact hp
/-- Without a person: one row less at most, and one less at what the person has. -/
theorem wos_cnt {R : List Row} (hn : (ps R).Nodup) (p : Int) (f : Nat) : R.length ≤ (wos R p).length + 1 ∧ (wos R p).length ≤ R.length ∧ ∀ v : Nat, cnt (wos R p) f v ≤ cnt R f v ∧ cnt R f v ≤ cnt (wos R p) f v + 1 ∧ ((v : Int) ≠ hasTo R p f R.length → cnt R f v = cnt (wos R p) f v) := by
  rcases hasTo_or R p f R.length (Nat.le_refl _) with ⟨r0, h1, h2, h3⟩ | ⟨h1, h2⟩
  · obtain ⟨i1, i2⟩ := wos_one hn h1 h2
    refine ⟨by omega, by omega, fun v => ?_⟩
    have := i2 f v
    rw [cnt_cL, cnt_cL, h3]
    split at this
    · rename_i hv
      exact ⟨by omega, by omega, fun h => absurd hv.symm h⟩
    · exact ⟨by omega, by omega, fun _ => by omega⟩
  · have e : wos R p = R := wos_same fun r hr => by
      obtain ⟨j, hj, ej⟩ := (mem_getD (d := rowZ)).1 hr
      rw [← ej]; exact h1 j hj
    rw [e]
    exact ⟨by omega, Nat.le_refl _, fun v => ⟨Nat.le_refl _, by omega, fun _ => rfl⟩⟩
/-- Counts that differ by one have weights that differ by 2 to the cost at most. -/
theorem wt_near {m k c c' x : Int} (h : Fits m k) (hc : 0 ≤ c ∧ c ≤ m) (hc' : 0 ≤ c' ∧ c' ≤ m) (hx : 0 ≤ x ∧ x ≤ m) (hd : c - c' ≤ 1 ∧ c' - c ≤ 1) : wt c m k x ≤ wt c' m k x * pw k := by
  have hk := h.fk
  have a1 := apart_le hc hx
  have a2 := apart_le hc' hx
  have a3 : apart c' x ≤ apart c x + 1 := by unfold apart; omega
  have e1 : k * (m - apart c x) ≤ k * (m - apart c' x) + k := by
    have h1 : k * (m - apart c x) ≤ k * (m - apart c' x + 1) := Int.mul_le_mul_of_nonneg_left (by omega) (by omega)
    rw [Int.mul_add, Int.mul_one] at h1
    exact h1
  have e2 : 0 ≤ k * (m - apart c' x) := Int.mul_nonneg (by omega) (by omega)
  have e3 := pw_mono e1
  rw [pw_add e2 (by omega)] at e3
  have p1 := pw_pos k
  unfold wt
  split
  · have h1 := Int.mul_le_mul_of_nonneg_right e3 (show 0 ≤ pw k by omega)
    exact h1
  · have h1 := Int.mul_le_mul_of_nonneg_right e3 (show 0 ≤ pw k - 1 by omega)
    rw [Int.mul_right_comm] at h1
    exact h1
/-- What is asked of the weights at a value. -/
structure Near (has k a b : Int) (v : Nat) : Prop where
  a1 : 1 ≤ a ∧ a ≤ 274877906944
  b1 : 1 ≤ b ∧ b ≤ 274877906944
  e : (v : Int) ≠ has → a = b
  ab : a ≤ b * pw k
  ba : b ≤ a * pw k
theorem near_ok {R : List Row} (hn : (ps R).Nodup) (p f k : Int) (hk : 1 ≤ k ∧ k ≤ 12) {l : List Int} (v : Nat) (hl : 0 ≤ l.getD v 0 ∧ l.getD v 0 ≤ most k) : Near (hasTo R p f.toNat R.length) k (wOf R f k l v) (wOf (wos R p) f k l v) v := by
  obtain ⟨hf, hm⟩ := most_fits hk
  obtain ⟨_, _, h3⟩ := wos_cnt hn p f.toNat
  obtain ⟨i1, i2, i3⟩ := h3 v
  unfold wOf
  refine ⟨wt_bd hf (by omega) hl, wt_bd hf (by omega) hl, fun h => by rw [i3 h], wt_near hf (by omega) (by omega) hl (by omega), wt_near hf (by omega) (by omega) hl (by omega)⟩
theorem wos_fine {S : List Int} {R : List Row} (h : okE ⟨S, R⟩ = 0) (p : Int) : okE ⟨S, wos R p⟩ = 0 := by
  obtain ⟨h1, h2, h3, h4, h5⟩ := okE_zero.1 h
  refine okE_zero.2 ⟨h1, ?_, h3, fun k hk => ?_, ?_⟩
  · exact Nat.le_trans (List.length_filter_le _ _) h2
  · have hm : (wos R p).getD k rowZ ∈ wos R p := getD_mem hk
    have hm2 := (List.mem_filter.1 hm).1
    obtain ⟨j, hj, e⟩ := (mem_getD (d := rowZ)).1 hm2
    have := h4 j hj
    rw [e] at this
    exact this
  · exact h5.sublist (List.filter_sublist.map _)
end Go.Rl
