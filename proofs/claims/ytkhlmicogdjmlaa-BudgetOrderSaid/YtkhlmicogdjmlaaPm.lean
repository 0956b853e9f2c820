
/- Budgets: two asks in either order; one ask at the sum of two; plain. -/
import Derived.Test.YtkhlmicogdjmlaaPk
set_option linter.unusedSimpArgs false
set_option linter.unusedVariables false
namespace Go.Bg
open Go.Rt Go.Lx
section
variable {b : Bk} {l m : List Int} {c d : Rq} {w v : Int}
theorem two_iff (hv : BV b) (hl : l.length ≤ 3) (hm : m.length ≤ 3) (hc : Vk 12 c w) (hd : Vk 12 d v) (hw : w ≤ 1000) (hw2 : v ≤ 1000) :
    (askE b l c = 0 ∧ askE (askB b l c) m d = 0) ↔ l ≠ [] ∧ m ≠ [] ∧ knE b l = 0 ∧ knE b m = 0 ∧ (∀ i, i < b.A.length → vl (b.A.getD i accZ).U + pc l w i + pc m v i ≤ vl (b.A.getD i accZ).L) ∧ ∀ i, i < b.O.length → vl (b.O.getD i accZ).U + sh b.W l w i + sh b.W m v i ≤ vl (b.O.getD i accZ).L := by
  constructor
  · rintro ⟨h1, h2⟩
    have q := asked hv hl hc hw h1
    obtain ⟨a1, a2, _, _⟩ := (ask_iff hv hl hc hw).1 h1
    obtain ⟨b1, b2, b3, b4⟩ := (ask_iff q.v hm hd hw2).1 h2
    rw [kn_congr q.na q.R] at b2
    refine ⟨a1, b1, a2, b2, fun i hi => ?_, fun i hi => ?_⟩
    · have := b3 i (by rw [q.na]; exact hi)
      rw [q.ua i hi, q.la i] at this; exact this
    · have := b4 i (by rw [q.no]; exact hi)
      rw [q.uo i hi, q.lo i, q.W] at this; exact this
  · rintro ⟨a1, b1, a2, b2, h3, h4⟩
    have h1 : askE b l c = 0 := (ask_iff hv hl hc hw).2 ⟨a1, a2, fun i hi => by have := h3 i hi; have := pc_nn m hd.n i; omega, fun i hi => by have := h4 i hi; have := sh_nn b.W m hd.n i; omega⟩
    have q := asked hv hl hc hw h1
    refine ⟨h1, (ask_iff q.v hm hd hw2).2 ⟨b1, by rw [kn_congr q.na q.R]; exact b2, fun i hi => ?_, fun i hi => ?_⟩⟩
    · rw [q.na] at hi
      rw [q.ua i hi, q.la i]; exact h3 i hi
    · rw [q.no] at hi
      rw [q.uo i hi, q.lo i, q.W]; exact h4 i hi
/-- The order of two asks does not matter. -/
theorem order_iff (hv : BV b) (hl : l.length ≤ 3) (hm : m.length ≤ 3) (hc : Vk 12 c w) (hd : Vk 12 d v) (hw : w ≤ 1000) (hw2 : v ≤ 1000) :
    (askE b l c = 0 ∧ askE (askB b l c) m d = 0) ↔ (askE b m d = 0 ∧ askE (askB b m d) l c = 0) := by
  rw [two_iff hv hl hm hc hd hw hw2, two_iff hv hm hl hd hc hw2 hw]
  constructor
  · rintro ⟨h1, h2, h3, h4, h5, h6⟩
    exact ⟨h2, h1, h4, h3, fun i hi => by have := h5 i hi; omega, fun i hi => by have := h6 i hi; omega⟩
  · rintro ⟨h1, h2, h3, h4, h5, h6⟩
    exact ⟨h2, h1, h4, h3, fun i hi => by have := h5 i hi; omega, fun i hi => by have := h6 i hi; omega⟩
theorem same_U {b b' : Bk} {i : Nat} (hv : BV b) (hv' : BV b') (hi : i < b.A.length) (hi' : i < b'.A.length) (h : vl (b.A.getD i accZ).U = vl (b'.A.getD i accZ).U) (hq : 1 ≤ (b.A.getD i accZ).U.Q) (hq' : 1 ≤ (b'.A.getD i accZ).U.Q) : (b.A.getD i accZ).U = (b'.A.getD i accZ).U := by
  have h1 := (hv.a i hi).u
  rw [h] at h1
  exact eq_val (by decide) h1 (hv'.a i hi').u hq hq'
theorem same_UO {b b' : Bk} {i : Nat} (hv : BV b) (hv' : BV b') (hi : i < b.O.length) (hi' : i < b'.O.length) (h : vl (b.O.getD i accZ).U = vl (b'.O.getD i accZ).U) (hq : 1 ≤ (b.O.getD i accZ).U.Q) (hq' : 1 ≤ (b'.O.getD i accZ).U.Q) : (b.O.getD i accZ).U = (b'.O.getD i accZ).U := by
  have h1 := (hv.o i hi).u
  rw [h] at h1
  exact eq_val (by decide) h1 (hv'.o i hi').u hq hq'
theorem order_eq (hv : BV b) (hl : l.length ≤ 3) (hm : m.length ≤ 3) (hc : Vk 12 c w) (hd : Vk 12 d v) (hw : w ≤ 1000) (hw2 : v ≤ 1000) (h : askE b l c = 0 ∧ askE (askB b l c) m d = 0) :
    (∀ i, ((askB (askB b l c) m d).A.getD i accZ).U = ((askB (askB b m d) l c).A.getD i accZ).U) ∧ ∀ i, ((askB (askB b l c) m d).O.getD i accZ).U = ((askB (askB b m d) l c).O.getD i accZ).U := by
  have h' := (order_iff hv hl hm hc hd hw hw2).1 h
  have hk1 := ((ask_iff hv hl hc hw).1 h.1).2.1
  have hk2 := ((ask_iff hv hm hd hw2).1 h'.1).2.1
  have q1 := asked hv hl hc hw h.1
  have q2 := asked q1.v hm hd hw2 h.2
  have p1 := asked hv hm hd hw2 h'.1
  have p2 := asked p1.v hl hc hw h'.2
  constructor
  · intro i
    by_cases h1 : (i : Int) ∈ l
    · have hi : i < b.A.length := by have := kn_range hk1 _ h1; omega
      by_cases h2 : (i : Int) ∈ m
      · refine same_U q2.v p2.v (by rw [q2.na, q1.na]; exact hi) (by rw [p2.na, p1.na]; exact hi) ?_ (q2.qa i (by rw [q1.na]; exact hi) h2) (p2.qa i (by rw [p1.na]; exact hi) h1)
        rw [q2.ua i (by rw [q1.na]; exact hi), q1.ua i hi, p2.ua i (by rw [p1.na]; exact hi), p1.ua i hi]
        omega
      · rw [q2.a i, if_neg h2, q1.a i, if_pos h1, p2.a i, if_pos h1, p1.a i, if_neg h2]
    · by_cases h2 : (i : Int) ∈ m
      · rw [q2.a i, if_pos h2, q1.a i, if_neg h1, p2.a i, if_neg h1, p1.a i, if_pos h2]
      · rw [q2.a i, if_neg h2, q1.a i, if_neg h1, p2.a i, if_neg h1, p1.a i, if_neg h2]
  · intro i
    have e1 : (askB b l c).O.length = b.O.length := q1.no
    have e2 : (askB b m d).O.length = b.O.length := p1.no
    have w1 : (askB b l c).W = b.W := q1.W
    have w2 : (askB b m d).W = b.W := p1.W
    by_cases h1 : i < b.O.length ∧ cnt b.W l i ≠ 0
    · by_cases h2 : i < b.O.length ∧ cnt b.W m i ≠ 0
      · refine same_UO q2.v p2.v (by rw [q2.no, q1.no]; exact h1.1) (by rw [p2.no, p1.no]; exact h1.1) ?_ (q2.qo i (by rw [q1.no]; exact h1.1) (by rw [w1]; exact h2.2)) (p2.qo i (by rw [p1.no]; exact h1.1) (by rw [w2]; exact h1.2))
        rw [q2.uo i (by rw [q1.no]; exact h1.1), q1.uo i h1.1, p2.uo i (by rw [p1.no]; exact h1.1), p1.uo i h1.1, w1, w2]
        omega
      · rw [q2.o i, e1, w1, if_neg h2, q1.o i, if_pos h1, p2.o i, e2, w2, if_pos h1, p1.o i, if_neg h2]
    · by_cases h2 : i < b.O.length ∧ cnt b.W m i ≠ 0
      · rw [q2.o i, e1, w1, if_pos h2, q1.o i, if_neg h1, p2.o i, e2, w2, if_neg h1, p1.o i, if_pos h2]
      · rw [q2.o i, e1, w1, if_neg h2, q1.o i, if_neg h1, p2.o i, e2, w2, if_neg h1, p1.o i, if_neg h2]
theorem pc_add (l : List Int) (w v : Int) (i : Nat) : pc l (w + v) i = pc l w i + pc l v i := by unfold pc; split <;> omega
theorem sh_add (W l : List Int) (w v : Int) (i : Nat) : sh W l (w + v) i = sh W l w i + sh W l v i := by unfold sh; rw [Int.mul_add, Int.add_mul]
/-- Asking twice is asking once at the sum. -/
theorem twice_iff {s : Rq} (hv : BV b) (hl : l.length ≤ 3) (hc : Vk 12 c w) (hd : Vk 12 d v) (hs : Vk 12 s (w + v)) (hw : w ≤ 500) (hw2 : v ≤ 500) :
    (askE b l c = 0 ∧ askE (askB b l c) l d = 0) ↔ askE b l s = 0 := by
  rw [two_iff hv hl hl hc hd (by omega) (by omega), ask_iff hv hl hs (by omega)]
  constructor
  · rintro ⟨h1, _, h3, _, h5, h6⟩
    exact ⟨h1, h3, fun i hi => by have := h5 i hi; rw [pc_add]; omega, fun i hi => by have := h6 i hi; rw [sh_add]; omega⟩
  · rintro ⟨h1, h3, h5, h6⟩
    exact ⟨h1, h1, h3, h3, fun i hi => by have := h5 i hi; rw [pc_add] at this; omega, fun i hi => by have := h6 i hi; rw [sh_add] at this; omega⟩
theorem twice_eq {s : Rq} (hv : BV b) (hl : l.length ≤ 3) (hc : Vk 12 c w) (hd : Vk 12 d v) (hs : Vk 12 s (w + v)) (hw : w ≤ 500) (hw2 : v ≤ 500) (h : askE b l s = 0) :
    (∀ i, ((askB b l s).A.getD i accZ).U = ((askB (askB b l c) l d).A.getD i accZ).U) ∧ ∀ i, ((askB b l s).O.getD i accZ).U = ((askB (askB b l c) l d).O.getD i accZ).U := by
  obtain ⟨h1, h2⟩ := (twice_iff hv hl hc hd hs hw hw2).2 h
  have hk1 := ((ask_iff hv hl hc (by omega)).1 h1).2.1
  have q := asked hv hl hs (by omega) h
  have p1 := asked hv hl hc (by omega) h1
  have p2 := asked p1.v hl hd (by omega) h2
  constructor
  · intro i
    by_cases hm : (i : Int) ∈ l
    · have hi : i < b.A.length := by have := kn_range hk1 _ hm; omega
      refine same_U q.v p2.v (by rw [q.na]; exact hi) (by rw [p2.na, p1.na]; exact hi) ?_ (q.qa i hi hm) (p2.qa i (by rw [p1.na]; exact hi) hm)
      rw [q.ua i hi, p2.ua i (by rw [p1.na]; exact hi), p1.ua i hi, pc_add]
      omega
    · rw [q.a i, if_neg hm, p2.a i, if_neg hm, p1.a i, if_neg hm]
  · intro i
    have e1 : (askB b l c).O.length = b.O.length := p1.no
    have w1 : (askB b l c).W = b.W := p1.W
    by_cases hm : i < b.O.length ∧ cnt b.W l i ≠ 0
    · refine same_UO q.v p2.v (by rw [q.no]; exact hm.1) (by rw [p2.no, p1.no]; exact hm.1) ?_ (q.qo i hm.1 hm.2) (p2.qo i (by rw [p1.no]; exact hm.1) (by rw [w1]; exact hm.2))
      rw [q.uo i hm.1, p2.uo i (by rw [p1.no]; exact hm.1), p1.uo i hm.1, w1, sh_add]
      omega
    · rw [q.o i, if_neg hm, p2.o i, e1, w1, if_neg hm, p1.o i, if_neg hm]
end
end Go.Bg
