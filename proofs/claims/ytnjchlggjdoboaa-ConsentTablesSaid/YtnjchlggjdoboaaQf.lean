
/- dioramalaw26.ConsentTables: the plain law. -/
import Derived.Test.YtnjchlggjdoboaaCk
import Derived.Test.YtnjchlggjdoboaaQe
set_option linter.unusedSimpArgs false
set_option linter.unusedVariables false
namespace Go.Cs
open Go.Rl Go.V
theorem srt_inc {l : List Int} (h : l.Nodup) : (srt l).Pairwise (· < ·) := by
  have h1 := srt_le l
  have h2 : (srt l).Nodup := (List.mergeSort_perm l _).nodup_iff.2 h
  exact (h1.and h2).imp fun h => by
    obtain ⟨a, b⟩ := h
    omega
/-- The persons of a table. -/
theorem pers_inc {t : Tab} (h : okE t = 0) : (pers t).Pairwise (· < ·) := by
  unfold pers
  rw [if_pos h]
  exact srt_inc (okE_zero.1 h).2.2.2.2
theorem pers_mem {t : Tab} (h : okE t = 0) {x : Int} : x ∈ pers t ↔ x ∈ ps t.R := by
  unfold pers
  rw [if_pos h]
  exact srt_mem
theorem ps_in {t : Tab} (h : okE t = 0) {x : Int} (hx : x ∈ ps t.R) : 0 ≤ x ∧ x < 65536 := by
  unfold ps at hx
  obtain ⟨r, hr, rfl⟩ := List.mem_map.1 hx
  obtain ⟨j, hj, e⟩ := (Go.Lx.mem_getD (d := rowZ)).1 hr
  have h1 := (okE_zero.1 h).2.2.2.1 j hj
  rw [e] at h1
  have := (badR_false.1 h1).1
  omega
theorem pers_in {t : Tab} (h : okE t = 0) {x : Int} (hx : x ∈ pers t) : 0 ≤ x ∧ x < 65536 := ps_in h ((pers_mem h).1 hx)
theorem pers_len {t : Tab} (h : okE t = 0) : (pers t).length = t.R.length := by
  unfold pers
  rw [if_pos h]
  exact (srt_len _).trans (ps_len _)
/-- Without a person a table is well made, and its persons are the others. -/
theorem wo_ok {t : Tab} (h : okE t = 0) (p : Int) : okE (wo t p) = 0 := by
  obtain ⟨h1, h2, h3, h4, h5⟩ := okE_zero.1 h
  refine okE_zero.2 ⟨h1, ?_, h3, fun k hk => ?_, ?_⟩
  · exact Nat.le_trans (List.length_filter_le _ _) h2
  · have hm : (wo t p).R.getD k rowZ ∈ (wo t p).R := Go.Lx.getD_mem hk
    have hm2 := (List.mem_filter.1 hm).1
    obtain ⟨j, hj, e⟩ := (Go.Lx.mem_getD (d := rowZ)).1 hm2
    have := h4 j hj
    rw [e] at this
    exact this
  · exact h5.sublist (List.filter_sublist.map _)
theorem pers_wo {t : Tab} (h : okE t = 0) (p : Int) : pers (wo t p) = kept [p] (pers t) := by
  refine inc_ext (pers_inc (wo_ok h p)) ((pers_inc h).sublist List.filter_sublist) fun x => ?_
  rw [pers_mem (wo_ok h p)]
  unfold kept
  rw [List.mem_filter, pers_mem h]
  unfold ps wo
  rw [List.mem_map, List.mem_map]
  constructor
  · rintro ⟨r, hr, rfl⟩
    obtain ⟨h1, h2⟩ := List.mem_filter.1 hr
    refine ⟨⟨r, h1, rfl⟩, ?_⟩
    simpa using h2
  · rintro ⟨⟨r, hr, rfl⟩, h2⟩
    refine ⟨r, List.mem_filter.2 ⟨hr, ?_⟩, rfl⟩
    simpa using h2
theorem pers_wo' {S : List Int} {R : List Row} (h : okE ⟨S, R⟩ = 0) (p : Int) : pers ⟨S, R.filter fun r => !decide (r.p = p)⟩ = kept [p] (pers ⟨S, R⟩) := pers_wo h p
/-- The books of the law. -/
def tb1 (P : List Int) : Bk := ⟨[⟨[], P, P, true⟩], []⟩
def tb2 (P : List Int) (p : Int) : Bk := ⟨[⟨[], P, P, false⟩], [p]⟩
def tb3 (P : List Int) (p : Int) : Bk := ⟨[⟨[], kept [p] P, kept [p] P, true⟩], [p]⟩
theorem risP_of : ∀ {l : List Int} {a n : Int}, l.Pairwise (· < ·) → (∀ x ∈ l, a < x ∧ x < n) → risP a n l = true
  | [], _, _, _, _ => rfl
  | v :: r, a, n, h, h2 => by
    have hv := h2 v List.mem_cons_self
    rw [List.pairwise_cons] at h
    rw [risP, if_neg (by omega)]
    exact risP_of h.2 fun x hx => ⟨h.1 x hx, (h2 x (List.mem_cons_of_mem _ hx)).2⟩
theorem baseOf_nil {E : List Ent} {P : List Int} (h : P.Pairwise (· < ·)) : baseOf E [] P = P := by
  show uniq (P ++ []) = P
  rw [List.append_nil]
  exact uniq_of_inc h
section
variable {P : List Int} (hi : P.Pairwise (· < ·)) (hr : ∀ x ∈ P, 0 ≤ x ∧ x < 65536) (hl : P.length ≤ 64)
theorem denied_nil {P : List Int} : denied [] P = false := by
  unfold denied
  rw [List.any_eq_false]
  intro x _
  simp
include hi hr hl in
theorem tb_mkE : mkE bk0 [] P = 0 := by
  unfold mkE
  rw [if_neg (by show ¬ (256 ≤ 0 ∨ 512 < P.length); omega), if_neg, if_neg, if_neg]
  · show ¬ (stale [] [] = true)
    decide
  · show ¬ (denied [] P = true)
    rw [denied_nil]; decide
  · rw [risP_of hi (a := -1) (n := 65536) fun x hx => by have := hr x hx; omega]
    show ¬ (risP (-1) 0 [] = false ∨ true = false)
    decide
include hi hr hl in
theorem tb_mkN : mkN bk0 [] P = 0 := by unfold mkN; rw [if_pos (tb_mkE hi hr hl)]; rfl
include hi hr hl in
theorem tb_mkB : mkB bk0 [] P = tb1 P := by
  unfold mkB
  rw [if_pos (tb_mkE hi hr hl), baseOf_nil hi]; rfl
theorem tb1_base (b : Bool) (Q R : List Int) (i : Int) : baseAt [⟨[], P, Q, b⟩] i = Q ∨ baseAt [⟨[], P, Q, b⟩] i = [] := by
  unfold baseAt
  rcases e : i.toNat with _ | n
  · exact .inl rfl
  · exact .inr rfl
theorem tb_len {Q : List Int} {b : Bool} (hQ : Q.length ≤ 65536) (i : Int) : (baseAt [⟨[], P, Q, b⟩] i).length ≤ 65536 := by
  rcases tb1_base (P := P) b Q [] i with e | e <;> rw [e]
  · exact hQ
  · exact Nat.zero_le _
theorem tb_rmE {p : Int} (h : 0 ≤ p ∧ p < 65536) : rmE (tb1 P) p = 0 := by
  unfold rmE
  rw [if_neg (by omega), if_neg (by show ¬ (p ∈ []); exact List.not_mem_nil)]
theorem tb_rmB {p : Int} (h : 0 ≤ p ∧ p < 65536) (hp : p ∈ P) : rmB (tb1 P) p = tb2 P p := by
  unfold rmB
  rw [if_pos (tb_rmE h)]
  show (⟨[gone p ⟨[], P, P, true⟩], [] ++ [p]⟩ : Bk) = tb2 P p
  unfold gone
  rw [if_pos (show p ∈ (⟨[], P, P, true⟩ : Ent).B from hp)]; rfl
theorem tb_rmL {p : Int} (h : 0 ≤ p ∧ p < 65536) (hp : p ∈ P) : rmL (tb1 P) p = [0] := by
  unfold rmL
  rw [if_pos (tb_rmE h)]
  show hitsTo (tb1 P).E p 1 = [0]
  unfold hitsTo
  rw [if_pos (show p ∈ ((tb1 P).E.getD 0 entZ).B from hp)]; rfl
theorem tb_rnE {p : Int} : rnE (tb2 P p) 0 = 0 := by
  unfold rnE
  rw [if_neg (by unfold badT tb2; simp), if_neg (by show ¬ (false = true); decide), if_neg (by show ¬ (false = true); exact Bool.false_ne_true)]
include hi in
theorem tb_rnB {p : Int} : rnB (tb2 P p) 0 = tb3 P p := by
  unfold rnB
  rw [if_pos tb_rnE]
  show (⟨[⟨[], kept [p] P, baseOf _ [] (kept [p] P), true⟩], [p]⟩ : Bk) = tb3 P p
  rw [baseOf_nil (show (kept [p] P).Pairwise (· < ·) from hi.sublist List.filter_sublist)]; rfl
theorem tb_d1 : decide (dpE (tb1 P) 0 = 0 ∧ dpU (tb1 P) 0 = true ∧ dpL (tb1 P) 0 = P) = true := by
  refine decide_eq_true ⟨?_, ?_, ?_⟩
  · unfold dpE; rw [if_neg (by unfold badT tb1; simp)]
  · unfold dpU; rw [if_neg (by unfold badT tb1; simp)]; rfl
  · unfold dpL; rw [if_neg (by unfold badT tb1; simp)]; rfl
theorem tb_d2 {p : Int} : decide (dpE (tb2 P p) 0 = 0 ∧ dpU (tb2 P p) 0 = false ∧ dpL (tb2 P p) 0 = P) = true := by
  refine decide_eq_true ⟨?_, ?_, ?_⟩
  · unfold dpE; rw [if_neg (by unfold badT tb2; simp)]
  · unfold dpU; rw [if_neg (by unfold badT tb2; simp)]; rfl
  · unfold dpL; rw [if_neg (by unfold badT tb2; simp)]; rfl
theorem tb_d3 {p : Int} : decide (dpE (tb3 P p) 0 = 0 ∧ dpU (tb3 P p) 0 = true ∧ dpL (tb3 P p) 0 = kept [p] P) = true := by
  refine decide_eq_true ⟨?_, ?_, ?_⟩
  · unfold dpE; rw [if_neg (by unfold badT tb3; simp)]
  · unfold dpU; rw [if_neg (by unfold badT tb3; simp)]; rfl
  · unfold dpL; rw [if_neg (by unfold badT tb3; simp)]; rfl
end
end Go.Cs
