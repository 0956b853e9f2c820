
/- Tables of private originals: the plain law. -/
import Derived.Test.YtfiecjpoabnfnaaSh
import Derived.Test.YtfiecjpoabnfnaaLa
set_option linter.unusedSimpArgs false
set_option linter.unusedVariables false
namespace Go.Rl
open Go.V Go.Lx
structure Row where
  p : Int
  V : List Int
abbrev rowZ : Row := ⟨0, []⟩
structure Tab where
  S : List Int
  R : List Row
def badS (S : List Int) : Bool := S.any fun n => decide (n < 1 ∨ 12 < n)
def badV (S V : List Int) : Bool := (List.range V.length).any fun k => decide (V.getD k 0 < 0 ∨ S.getD k 0 ≤ V.getD k 0)
def badR (S : List Int) (r : Row) : Bool := decide (r.p < 0 ∨ 65535 < r.p ∨ r.V.length ≠ S.length) || badV S r.V
def ps (R : List Row) : List Int := R.map (·.p)
/-- The error of a table. -/
def okE (t : Tab) : Int :=
  if 8 < t.S.length ∨ 64 < t.R.length then 4
  else if badS t.S = true ∨ t.R.any (badR t.S) = true then 1
  else if (ps t.R).Nodup then 0 else 7
def pers (t : Tab) : List Int := if okE t = 0 then srt (ps t.R) else []
theorem ps_len (R : List Row) : (ps R).length = R.length := List.length_map _
theorem ps_get {R : List Row} {k : Nat} : (ps R).getD k 0 = (R.getD k rowZ).p := by
  unfold ps
  rw [List.getD_eq_getElem?_getD, List.getElem?_map, List.getD_eq_getElem?_getD]
  cases R[k]? <;> rfl
theorem any_getD {α : Type} {q : α → Bool} {d : α} {l : List α} : l.any q = true ↔ ∃ k, k < l.length ∧ q (l.getD k d) = true := by
  rw [List.any_eq_true]
  constructor
  · rintro ⟨x, hx, h⟩
    obtain ⟨j, hj, rfl⟩ := (mem_getD (d := d)).1 hx
    exact ⟨j, hj, h⟩
  · rintro ⟨k, hk, h⟩
    exact ⟨_, getD_mem hk, h⟩
theorem any_false {α : Type} {q : α → Bool} {d : α} {l : List α} : l.any q = false ↔ ∀ k, k < l.length → q (l.getD k d) = false := by
  constructor
  · intro h k hk
    cases hq : q (l.getD k d) with
    | false => rfl
    | true => rw [any_getD.2 ⟨k, hk, hq⟩] at h; cases h
  · intro h
    cases ha : l.any q with
    | false => rfl
    | true =>
      obtain ⟨k, hk, hq⟩ := (any_getD (d := d)).1 ha
      rw [h k hk] at hq; cases hq
theorem badV_true {S V : List Int} : badV S V = true ↔ ∃ k, k < V.length ∧ (V.getD k 0 < 0 ∨ S.getD k 0 ≤ V.getD k 0) := by
  unfold badV
  rw [List.any_eq_true]
  constructor
  · rintro ⟨k, hk, h⟩; exact ⟨k, List.mem_range.1 hk, of_decide_eq_true h⟩
  · rintro ⟨k, hk, h⟩; exact ⟨k, List.mem_range.2 hk, decide_eq_true h⟩
theorem badV_false {S V : List Int} : badV S V = false ↔ ∀ k, k < V.length → 0 ≤ V.getD k 0 ∧ V.getD k 0 < S.getD k 0 := by
  rw [← Bool.not_eq_true, badV_true]
  constructor
  · intro h k hk
    rcases Classical.em (V.getD k 0 < 0 ∨ S.getD k 0 ≤ V.getD k 0) with h2 | h2
    · exact absurd ⟨k, hk, h2⟩ h
    · omega
  · rintro h ⟨k, hk, h2⟩
    have := h k hk
    omega
theorem badR_head {S : List Int} {r : Row} (h : r.p < 0 ∨ 65535 < r.p ∨ r.V.length ≠ S.length) : badR S r = true := by
  unfold badR; rw [decide_eq_true h, Bool.true_or]
theorem badR_tail {S : List Int} {r : Row} (h : ¬ (r.p < 0 ∨ 65535 < r.p ∨ r.V.length ≠ S.length)) : badR S r = badV S r.V := by
  unfold badR; rw [decide_eq_false h, Bool.false_or]
theorem badR_false {S : List Int} {r : Row} : badR S r = false ↔ (0 ≤ r.p ∧ r.p ≤ 65535 ∧ r.V.length = S.length) ∧ ∀ k, k < r.V.length → 0 ≤ r.V.getD k 0 ∧ r.V.getD k 0 < S.getD k 0 := by
  unfold badR
  rw [Bool.or_eq_false_iff, decide_eq_false_iff_not, badV_false]
  constructor
  · rintro ⟨h, h2⟩; exact ⟨by omega, h2⟩
  · rintro ⟨h, h2⟩; exact ⟨by omega, h2⟩
theorem okE_lim {t : Tab} (h : 8 < t.S.length ∨ 64 < t.R.length) : okE t = 4 := by unfold okE; rw [if_pos h]
theorem okE_arg {t : Tab} (h : ¬ (8 < t.S.length ∨ 64 < t.R.length)) (h1 : badS t.S = true ∨ t.R.any (badR t.S) = true) : okE t = 1 := by unfold okE; rw [if_neg h, if_pos h1]
theorem okE_two {t : Tab} (h : ¬ (8 < t.S.length ∨ 64 < t.R.length)) (h1 : badS t.S = false) (h2 : ∀ k, k < t.R.length → badR t.S (t.R.getD k rowZ) = false) : okE t = if (ps t.R).Nodup then 0 else 7 := by
  unfold okE
  rw [if_neg h, if_neg]
  rw [h1, (any_false (d := rowZ)).2 h2]
  decide
theorem okE_zero {t : Tab} : okE t = 0 ↔ t.S.length ≤ 8 ∧ t.R.length ≤ 64 ∧ badS t.S = false ∧ (∀ k, k < t.R.length → badR t.S (t.R.getD k rowZ) = false) ∧ (ps t.R).Nodup := by
  constructor
  · intro h
    by_cases h1 : 8 < t.S.length ∨ 64 < t.R.length
    · rw [okE_lim h1] at h; cases h
    by_cases h2 : badS t.S = true ∨ t.R.any (badR t.S) = true
    · rw [okE_arg h1 h2] at h; cases h
    have h3 : badS t.S = false := by simpa using fun e => h2 (.inl e)
    have h4 : t.R.any (badR t.S) = false := by
      cases e : t.R.any (badR t.S) with
      | false => rfl
      | true => exact absurd (.inr e) h2
    have h5 := (any_false (d := rowZ)).1 h4
    rw [okE_two h1 h3 h5] at h
    refine ⟨by omega, by omega, h3, h5, ?_⟩
    by_cases hn : (ps t.R).Nodup
    · exact hn
    · rw [if_neg hn] at h; cases h
  · rintro ⟨h1, h2, h3, h4, h5⟩
    rw [okE_two (by omega) h3 h4, if_pos h5]
/-- What was seen of a list before place k. -/
def sTo (l : List Int) : Nat → List Int
  | 0 => []
  | k + 1 => if l.getD k 0 ∈ sTo l k then sTo l k else sTo l k ++ [l.getD k 0]
theorem sTo_mem {l : List Int} {x : Int} : ∀ {k : Nat}, k ≤ l.length → (x ∈ sTo l k ↔ ∃ j, j < k ∧ l.getD j 0 = x)
  | 0, _ => by rw [sTo]; simp
  | k + 1, h => by
    rw [sTo]
    have ih := sTo_mem (l := l) (x := x) (k := k) (by omega)
    split
    · rename_i hm
      rw [ih]
      constructor
      · rintro ⟨j, hj, e⟩; exact ⟨j, by omega, e⟩
      · rintro ⟨j, hj, e⟩
        rcases Nat.lt_or_ge j k with h1 | h1
        · exact ⟨j, h1, e⟩
        · obtain rfl : j = k := by omega
          rw [e] at hm
          exact ih.1 hm
    · rw [List.mem_append, ih, List.mem_singleton]
      constructor
      · rintro (⟨j, hj, e⟩ | e)
        · exact ⟨j, by omega, e⟩
        · exact ⟨k, by omega, e.symm⟩
      · rintro ⟨j, hj, e⟩
        rcases Nat.lt_or_ge j k with h1 | h1
        · exact .inl ⟨j, h1, e⟩
        · obtain rfl : j = k := by omega
          exact .inr e.symm
/-- No two of the first k are the same. -/
def dis (l : List Int) (k : Nat) : Prop := ∀ i j, i < j → j < k → l.getD i 0 ≠ l.getD j 0
theorem sTo_len {l : List Int} : ∀ {k : Nat}, k ≤ l.length → (sTo l k).length ≤ k ∧ ((sTo l k).length = k ↔ dis l k)
  | 0, _ => ⟨Nat.le_refl _, ⟨fun _ i j h1 h2 => by omega, fun _ => rfl⟩⟩
  | k + 1, h => by
    obtain ⟨h1, h2⟩ := sTo_len (l := l) (k := k) (by omega)
    rw [sTo]
    split
    · rename_i hm
      refine ⟨by omega, ⟨fun e => by omega, fun hd => ?_⟩⟩
      obtain ⟨j, hj, e⟩ := (sTo_mem (by omega)).1 hm
      exact absurd e (hd j k hj (by omega))
    · rename_i hm
      rw [List.length_append, List.length_singleton]
      refine ⟨by omega, ⟨fun e i j hij hj => ?_, fun hd => ?_⟩⟩
      · rcases Nat.lt_or_ge j k with hjk | hjk
        · exact h2.1 (by omega) i j hij hjk
        · obtain rfl : j = k := by omega
          exact fun e => hm ((sTo_mem (by omega)).2 ⟨i, hij, e⟩)
      · have := h2.2 fun i j hij hj => hd i j hij (by omega)
        omega
theorem nodup_dis {l : List Int} : l.Nodup ↔ dis l l.length := by
  unfold dis
  rw [List.nodup_iff_pairwise_ne, List.pairwise_iff_getElem]
  constructor
  · intro h i j hij hj
    rw [List.getD_eq_getElem?_getD, List.getD_eq_getElem?_getD, List.getElem?_eq_getElem (by omega), List.getElem?_eq_getElem hj]
    exact h i j (by omega) hj hij
  · intro h i j hi hj hij
    have := h i j hij hj
    rw [List.getD_eq_getElem?_getD, List.getD_eq_getElem?_getD, List.getElem?_eq_getElem hi, List.getElem?_eq_getElem hj] at this
    exact this
/-- Tables made of numbers. -/
def madeS (l : List Int) : List Int := (List.range (1 + atI l 0 3).toNat).map fun i : Nat => 1 + atI l (1 + (i : Int)) 5
def valAt (k : Int) (S : List Int) (j : Nat) : Int := k / 5 ^ j / 40 % S.getD j 0
def rowM (l S : List Int) (i : Nat) : Row := ⟨atI l (5 + (i : Int)) 1048576 % 40, (List.range S.length).map (valAt (atI l (5 + (i : Int)) 1048576) S)⟩
def madeTo (l S : List Int) : Nat → List Row
  | 0 => []
  | i + 1 => if okE ⟨S, madeTo l S i ++ [rowM l S i]⟩ = 0 then madeTo l S i ++ [rowM l S i] else madeTo l S i
def made (l : List Int) : Tab := ⟨madeS l, madeTo l (madeS l) (atI l 4 11).toNat⟩
theorem madeS_len (l : List Int) : (madeS l).length = (1 + atI l 0 3).toNat := by unfold madeS; rw [List.length_map, List.length_range]
theorem madeS_bd (l : List Int) : 1 ≤ (madeS l).length ∧ (madeS l).length ≤ 3 := by
  have := at_lt l 0 3 (by decide)
  rw [madeS_len]; omega
theorem madeS_get {l : List Int} {i : Nat} (h : i < (madeS l).length) : (madeS l).getD i 0 = 1 + atI l (1 + (i : Int)) 5 := by
  rw [madeS_len] at h
  unfold madeS
  rw [List.getD_eq_getElem?_getD, List.getElem?_map, List.getElem?_range h]; rfl
theorem madeS_val {l : List Int} {i : Nat} (h : i < (madeS l).length) : 1 ≤ (madeS l).getD i 0 ∧ (madeS l).getD i 0 ≤ 5 := by
  have := at_lt l (1 + (i : Int)) 5 (by decide)
  rw [madeS_get h]; omega
theorem madeS_ok (l : List Int) : badS (madeS l) = false := by
  unfold badS
  refine (any_false (d := 0)).2 fun k hk => ?_
  have := madeS_val hk
  exact decide_eq_false (by omega)
theorem madeTo_ok {l S : List Int} (hS : S.length ≤ 8 ∧ badS S = false) : ∀ n, okE ⟨S, madeTo l S n⟩ = 0 ∧ (madeTo l S n).length ≤ n
  | 0 => ⟨okE_zero.2 ⟨hS.1, by show 0 ≤ 64; omega, hS.2, fun k hk => absurd hk (Nat.not_lt_zero k), List.nodup_nil⟩, Nat.le_refl _⟩
  | n + 1 => by
    obtain ⟨h1, h2⟩ := madeTo_ok (l := l) hS n
    rw [madeTo]
    split
    · rename_i h
      exact ⟨h, by rw [List.length_append, List.length_singleton]; omega⟩
    · exact ⟨h1, by omega⟩
theorem made_fine (l : List Int) : okE (made l) = 0 := (madeTo_ok ⟨by have := madeS_bd l; omega, madeS_ok l⟩ _).1
theorem made_len (l : List Int) : (made l).R.length ≤ 10 := by
  have h := (madeTo_ok (l := l) ⟨by have := madeS_bd l; omega, madeS_ok l⟩ (atI l 4 11).toNat).2
  have := at_lt l 4 11 (by decide)
  show (madeTo l (madeS l) _).length ≤ 10
  omega
end Go.Rl
