/- The program's balance: pushes from nodes with too much to nodes with too little, or a set that blocks. Plain. The reference's ways, unit by unit: what a search leaves, and what its first circulation is. Plain. -/
import Derived.Test.YtkpidpmlehkjbaaWk
set_option linter.unusedSimpArgs false
set_option linter.unusedVariables false
namespace Go.Fl
open Go.V (mFind mSet)
/-- The arcs back from a node, by the entries. -/
def alg (l : List Ed) (E : List (Int × Nat)) (z : Int) : Nat → Int → List Nat
  | 0, _ => []
  | q + 1, v => match mFind E v with
    | none => []
    | some x => x :: if aF l x = z then [] else alg l E z q (aF l x)
theorem alg_eq {l : List Ed} {E : List (Int × Nat)} {z : Int} : ∀ {P : List Nat} {q : Nat} {v : Int}, Along l E z v P → P.length ≤ q → alg l E z q v = P
  | [], _, _, h, _ => h.elim
  | x :: P, 0, _, _, h => by simp at h
  | x :: P, q + 1, v, ⟨h1, h2⟩, hq => by
    rw [alg, h1]
    rcases h2 with ⟨rfl, h3⟩ | ⟨h3, h4, h5⟩
    · show x :: (if aF l x = z then [] else _) = _
      rw [if_pos h3]
    · show x :: (if aF l x = z then [] else _) = _
      rw [if_neg h4, alg_eq h5 (by simpa using hq)]
/-- The first node with too much; the first node with too little that is reached from it. -/
def src (n : Nat) (l : List Ed) (F : List Int) : Option Nat := (List.range n).find? fun v => decide (0 < bal l F v)
def snk (n : Nat) (l : List Ed) (F : List Int) (v : Nat) : Option Nat := (List.range n).find? fun w => (mFind (reach n l F v) (w : Int)).isSome && decide (bal l F w < 0)
def blkS (n : Nat) (l : List Ed) (F : List Int) (v : Nat) (w : Int) : Bool := decide (w = v) || (mFind (reach n l F v) w).isSome
/-- Along which arcs balance pushes, and how much. -/
def bwy (n : Nat) (l : List Ed) (F : List Int) (v w : Nat) : List Nat := alg l (reach n l F v) v n w
def bmo (n : Nat) (l : List Ed) (F : List Int) (v w : Nat) : Int := room l F (min (bal l F v) (-bal l F w)) (bwy n l F v w)
def bln (n : Nat) (l : List Ed) : Nat → List Int → List Int × Option Nat
  | 0, F => (F, none)
  | q + 1, F => match src n l F with
    | none => (F, none)
    | some v => match snk n l F v with
      | some w => bln n l q (pus (bmo n l F v w) F (bwy n l F v w))
      | none => (F, some v)
def exc (n : Nat) (l : List Ed) (F : List Int) : Int := sumN (fun v => max 0 (bal l F v)) n
theorem find_range {p : Nat → Bool} {n v : Nat} (h : (List.range n).find? p = some v) : v < n ∧ p v = true ∧ ∀ u, u < v → p u = false := by
  obtain ⟨h1, i, hi, h2, h3⟩ := List.find?_eq_some_iff_getElem.1 h
  rw [List.getElem_range] at h2
  subst h2
  rw [List.length_range] at hi
  refine ⟨hi, h1, fun u hu => ?_⟩
  have := h3 u hu
  rw [List.getElem_range] at this
  simpa using this
theorem find_range_none {p : Nat → Bool} {n : Nat} (h : (List.range n).find? p = none) : ∀ u, u < n → p u = false := fun u hu => by
  have := List.find?_eq_none.1 h u (List.mem_range.2 hu)
  simpa using this
theorem find_range_of {p : Nat → Bool} {n v : Nat} (hv : v < n) (h : p v = true) (h2 : ∀ u, u < v → p u = false) : (List.range n).find? p = some v := by
  cases hf : (List.range n).find? p with
  | none => exact absurd (find_range_none hf v hv) (by rw [h]; simp)
  | some w =>
    obtain ⟨a, b, c⟩ := find_range hf
    rcases Nat.lt_trichotomy v w with e | e | e
    · exact absurd (c v e) (by rw [h]; simp)
    · rw [e]
    · exact absurd (h2 w e) (by rw [b]; simp)
theorem find_range_no {p : Nat → Bool} {n : Nat} (h : ∀ u, u < n → p u = false) : (List.range n).find? p = none := by
  cases hf : (List.range n).find? p with
  | none => rfl
  | some w =>
    obtain ⟨a, b, c⟩ := find_range hf
    exact absurd (h w a) (by rw [b]; simp)
theorem exc_nn (n : Nat) (l : List Ed) (F : List Int) : 0 ≤ exc n l F := (sumN_pos fun v _ => Int.le_max_left _ _).1
/-- What is pushed from v to w. -/
theorem exc_push {n : Nat} {l : List Ed} {F G : List Int} {v w : Nat} {d : Int} (hv : v < n) (hb : ∀ u : Int, bal l G u = bal l F u + ((if (w : Int) = u then d else 0) - (if (v : Int) = u then d else 0))) (hd : 0 ≤ d) (h1 : d ≤ bal l F v) (h2 : d ≤ -bal l F w) (hvw : v ≠ w) : exc n l G = exc n l F - d := by
  have e := sumN_one (fun _ => 1) (-d) v n (by omega) (by omega)
  rw [exc, exc, show sumN (fun u => max 0 (bal l G u)) n = sumN (fun u => max 0 (bal l F u) + 1 * (if (v : Int) = (u : Int) then -d else 0)) n from sumN_congr fun u hu => ?_, sumN_add, e]
  · omega
  · rw [hb u]
    by_cases e1 : (w : Int) = (u : Int)
    · have e2 : ¬ (v : Int) = (u : Int) := by omega
      rw [if_pos e1, if_neg e2, if_neg e2]
      have : (u : Int) = w := e1.symm
      rw [this]
      omega
    · rw [if_neg e1]
      by_cases e2 : (v : Int) = (u : Int)
      · rw [if_pos e2, if_pos e2]
        have : (u : Int) = v := e2.symm
        rw [this]
        omega
      · rw [if_neg e2, if_neg e2]; omega
theorem aR_nn {l : List Ed} {F : List Int} (hF : inB l F) {x : Nat} (hx : x < 2 * l.length) : 0 ≤ aR l F x := by
  have := (inB_iff.1 hF).2 (x / 2) (by omega)
  rw [aR]
  split <;> omega
/-- A push of balance. -/
theorem bpush {n : Nat} {l : List Ed} {F : List Int} (hn : nodes n l) (hF : inB l F) {v w : Nat} (hv : src n l F = some v) (hw : snk n l F v = some w) :
    v < n ∧ w < n ∧ Along l (reach n l F v) v w (bwy n l F v w) ∧ (∀ x ∈ bwy n l F v w, x < 2 * l.length ∧ aR l F x ≠ 0) ∧ ((bwy n l F v w).map (· / 2)).Nodup ∧ chain l (bwy n l F v w) w v ∧ 1 ≤ bmo n l F v w ∧ inB l (pus (bmo n l F v w) F (bwy n l F v w)) ∧ exc n l (pus (bmo n l F v w) F (bwy n l F v w)) = exc n l F - bmo n l F v w := by
  obtain ⟨v1, v2, _⟩ := find_range hv
  obtain ⟨w1, w2, _⟩ := find_range hw
  have hR := reach_ok (F := F) (z := (v : Int)) (by omega) hn
  have v2 : 0 < bal l F v := of_decide_eq_true v2
  rw [Bool.and_eq_true, decide_eq_true_eq] at w2
  obtain ⟨w2, w3⟩ := w2
  have hk : (w : Int) ∈ (reach n l F v).map (·.1) := by
    by_cases hm : (w : Int) ∈ (reach n l F v).map (·.1)
    · exact hm
    · rw [mf_none.2 hm] at w2; cases w2
  obtain ⟨q1, q2, q3⟩ := hR.r.way
  obtain ⟨P, p0, p1, p2, p3, p4⟩ := q3 _ hk
  have hlen : P.length ≤ n := by
    have := nd_len (n := n) p4 (fun u hu => by
      obtain ⟨y, hy, e⟩ := List.mem_map.1 hu
      have := arc_in hn (p3 y hy).1
      omega)
    rwa [List.length_map] at this
  have hP : bwy n l F v w = P := alg_eq p1 hlen
  have hE : (P.map (· / 2)).Nodup := edges_of p2 p4 fun hm => by
    obtain ⟨y, hy, e⟩ := List.mem_map.1 hm
    exact q1 (e ▸ (p3 y hy).2.2)
  obtain ⟨r1, r2, r3⟩ := room_le (l := l) (F := F) (P := P) (m := min (bal l F v) (-bal l F w))
  have hd : bmo n l F v w = room l F (min (bal l F v) (-bal l F w)) P := by rw [bmo, hP]
  rw [hP, hd]
  have h1 : 1 ≤ room l F (min (bal l F v) (-bal l F w)) P := r3 1 (by omega) fun x hx => by
    have := aR_nn hF (p3 x hx).1
    have := (p3 x hx).2.1
    omega
  have hvw : v ≠ w := fun e => by subst e; omega
  refine ⟨v1, w1, p1, fun x hx => ⟨(p3 x hx).1, (p3 x hx).2.1⟩, hE, p2, h1, inB_pus hF (by omega) (fun x hx => ⟨by have := (p3 x hx).1; omega, r2 x hx⟩) hE, ?_⟩
  exact exc_push v1 (fun u => bal_pus _ u (inB_iff.1 hF).1 p2) (by omega) (by omega) (by omega) hvw
theorem src_none {n : Nat} {l : List Ed} {F : List Int} (hn : nodes n l) (h : src n l F = none) : circ n l F := by
  have h1 : ∀ v : Nat, v < n → bal l F v ≤ 0 := fun v hv => by
    have := of_decide_eq_false (find_range_none h v hv)
    omega
  have h2 := pot_sum (fun _ => 1) n l F hn
  have h3 : pot (fun _ => 1) l F = 0 := by
    have : ∀ (l : List Ed) (F : List Int), pot (fun _ => 1) l F = 0 := fun l => by
      induction l with
      | nil => intro F; cases F <;> rfl
      | cons e l ih =>
        intro F
        cases F with
        | nil => rfl
        | cons f F => rw [pot, ih]; simp
    exact this l F
  rw [h3, show sumN (fun v => 1 * bal l F v) n = sumN (fun v => bal l F v) n from sumN_congr fun v _ => Int.one_mul _] at h2
  have h4 := sumN_pos (g := fun v => - bal l F v) (n := n) (fun v hv => by have := h1 v hv; omega)
  have h5 : sumN (fun v => - bal l F v) n = - sumN (fun v => bal l F v) n := by
    have : ∀ m, sumN (fun v : Nat => - bal l F v) m = - sumN (fun v : Nat => bal l F v) m := fun m => by
      induction m with
      | zero => rfl
      | succ m ih => rw [sumN, sumN, ih]; omega
    exact this n
  intro v hv
  by_cases hz : bal l F v = 0
  · exact hz
  · have := h4.2 ⟨v, hv, by have := h1 v hv; omega⟩
    omega
/-- No node with too little is reached: the nodes reached block. -/
theorem snk_none {n : Nat} {l : List Ed} {F : List Int} (hn : nodes n l) (hF : inB l F) {v : Nat} (hv : src n l F = some v) (hw : snk n l F v = none) : 0 < over (blkS n l F v) l := by
  obtain ⟨v1, v2, _⟩ := find_range hv
  have v2 : 0 < bal l F v := of_decide_eq_true v2
  have hR := reach_ok (F := F) (z := (v : Int)) (by omega) hn
  have hS : ∀ u : Int, blkS n l F v u = true ↔ u = v ∨ u ∈ (reach n l F v).map (·.1) := fun u => by
    rw [blkS, Bool.or_eq_true, decide_eq_true_eq]
    by_cases hm : u ∈ (reach n l F v).map (·.1)
    · have : (mFind (reach n l F v) u).isSome = true := by
        cases hf : mFind (reach n l F v) u with
        | none => exact absurd hm (mf_none.1 hf)
        | some x => rfl
      simp only [hm, this]
    · rw [mf_none.2 hm]; simp only [hm, Option.isSome_none, Bool.false_eq_true]
  refine blocks hn hF (fun x hx hs hr => ?_) (fun u hu hs => ?_) v1 ((hS v).2 (.inl rfl)) v2
  · rcases hR.c _ ((hS _).1 hs) x hx rfl (by omega) with h | h
    · exact (hS _).2 (.inl h)
    · exact (hS _).2 (.inr h)
  · have := find_range_none hw u hu
    rcases (hS u).1 hs with h | h
    · have : u = v := by omega
      subst this; omega
    · have e : (mFind (reach n l F v) (u : Int)).isSome = true := by
        cases hf : mFind (reach n l F v) (u : Int) with
        | none => exact absurd h (mf_none.1 hf)
        | some x => rfl
      have this : ((mFind (reach n l F v) (u : Int)).isSome && decide (bal l F u < 0)) = false := this
      rw [e, Bool.true_and, decide_eq_false_iff_not] at this
      omega
theorem bln_c {n : Nat} {l : List Ed} {q : Nat} {F : List Int} (hv : src n l F = none) : bln n l (q + 1) F = (F, none) := by rw [bln, hv]
theorem bln_b {n : Nat} {l : List Ed} {q : Nat} {F : List Int} {v : Nat} (hv : src n l F = some v) (hw : snk n l F v = none) : bln n l (q + 1) F = (F, some v) := by rw [bln, hv]; simp only [hw]
theorem bln_a {n : Nat} {l : List Ed} {q : Nat} {F : List Int} {v w : Nat} (hv : src n l F = some v) (hw : snk n l F v = some w) : bln n l (q + 1) F = bln n l q (pus (bmo n l F v w) F (bwy n l F v w)) := by rw [bln, hv]; simp only [hw]
theorem bln_ok {n : Nat} {l : List Ed} (hn : nodes n l) : ∀ (q : Nat) {F : List Int}, inB l F → exc n l F < q →
    inB l (bln n l q F).1 ∧ ((bln n l q F).2 = none ∧ circ n l (bln n l q F).1 ∨ ∃ v, (bln n l q F).2 = some v ∧ v < n ∧ 0 < over (blkS n l (bln n l q F).1 v) l)
  | 0, F, _, h => by have := exc_nn n l F; omega
  | q + 1, F, hF, h => by
    cases hv : src n l F with
    | none =>
      rw [bln_c hv]
      exact ⟨hF, .inl ⟨rfl, src_none hn hv⟩⟩
    | some v =>
      cases hw : snk n l F v with
      | none =>
        rw [bln_b hv hw]
        exact ⟨hF, .inr ⟨v, rfl, (find_range hv).1, snk_none hn hF hv hw⟩⟩
      | some w =>
        rw [bln_a hv hw]
        obtain ⟨_, _, _, _, _, _, b1, b2, b3⟩ := bpush hn hF hv hw
        exact bln_ok hn q b2 (by omega)
end Go.Fl

namespace Go.Fl
def met (M : List Bool) (v : Int) : Prop := 0 ≤ v ∧ M.getD v.toNat false = true
def wsub (M M' : List Bool) : Prop := M'.length = M.length ∧ ∀ i : Nat, M.getD i false = true → M'.getD i false = true
/-- What a search leaves. -/
structure WyO (n : Nat) (b : List Int) (l : List Ed) (F : List Int) (M : List Bool) (v : Int) (r : Option (List Nat) × List Bool) : Prop where
  sub : wsub M r.2
  yes : ∀ P, r.1 = some P → ∃ u : Int, 0 ≤ u ∧ u < n ∧ b.getD u.toNat 0 < 0 ∧ chain l P u v ∧ (∀ x ∈ P, x < 2 * l.length ∧ 0 < aR l F x ∧ ¬ met M (aT l x)) ∧ (P.map (aT l)).Nodup ∧ v ∉ P.map (aT l)
  no : r.1 = none → met r.2 v ∧ ∀ u : Int, met r.2 u → ¬ met M u → 0 ≤ b.getD u.toNat 0 ∧ ∀ x, x < 2 * l.length → aF l x = u → 0 < aR l F x → met r.2 (aT l x)
/-- The same for a part of the arcs: from 2 m - k on. -/
structure WjO (n : Nat) (b : List Int) (l : List Ed) (F : List Int) (M : List Bool) (v : Int) (k : Nat) (r : Option (List Nat) × List Bool) : Prop where
  sub : wsub M r.2
  yes : ∀ P, r.1 = some P → ∃ u : Int, 0 ≤ u ∧ u < n ∧ b.getD u.toNat 0 < 0 ∧ chain l P u v ∧ (∀ x ∈ P, x < 2 * l.length ∧ 0 < aR l F x ∧ ¬ met M (aT l x)) ∧ (P.map (aT l)).Nodup ∧ v ∉ P.map (aT l)
  no : r.1 = none → (∀ x, 2 * l.length - k ≤ x → x < 2 * l.length → aF l x = v → 0 < aR l F x → met r.2 (aT l x)) ∧ ∀ u : Int, met r.2 u → ¬ met M u → 0 ≤ b.getD u.toNat 0 ∧ ∀ x, x < 2 * l.length → aF l x = u → 0 < aR l F x → met r.2 (aT l x)
/-- The last node with too much. -/
def top (b : List Int) : Nat → Int
  | 0 => -1
  | k + 1 => if 0 < b.getD k 0 then (k : Int) else top b k
/-- The balances of all nodes. -/
def bals (n : Nat) (l : List Ed) (F : List Int) : List Int := (List.range n).map fun v => bal l F (v : Nat)
theorem bals_get {n : Nat} {l : List Ed} {F : List Int} {v : Nat} (h : v < n) : (bals n l F).getD v 0 = bal l F v := by
  rw [bals, List.getD_eq_getElem?_getD, List.getElem?_map, List.getElem?_range h]; rfl
end Go.Fl
