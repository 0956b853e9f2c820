/- The reference's ways, unit by unit: what a search leaves, and what its first circulation is. Plain. -/
import Derived.Test.YtkpidpmlehkjbaaWl
set_option linter.unusedSimpArgs false
set_option linter.unusedVariables false
namespace Go.Fl
def wyJ (rec : List Bool → Int → Option (List Nat) × List Bool) (l : List Ed) (F : List Int) (v : Int) : Nat → List Bool → Option (List Nat) × List Bool
  | 0, M => (none, M)
  | k + 1, M => if aF l (2 * l.length - (k + 1)) = v ∧ M.getD (aT l (2 * l.length - (k + 1))).toNat false = false ∧ 0 < aR l F (2 * l.length - (k + 1)) then
      match rec M (aT l (2 * l.length - (k + 1))) with
      | (some P, M') => (some (P ++ [2 * l.length - (k + 1)]), M')
      | (none, M') => wyJ rec l F v k M'
    else wyJ rec l F v k M
def wy (b : List Int) (l : List Ed) (F : List Int) : Nat → List Bool → Int → Option (List Nat) × List Bool
  | 0, M, _ => (none, M)
  | q + 1, M, v => if b.getD v.toNat 0 < 0 then (some [], M) else wyJ (wy b l F q) l F v (2 * l.length) (M.set v.toNat true)
/-- How many nodes are not met. -/
def unm (M : List Bool) : Nat := M.count false
def met (M : List Bool) (v : Int) : Prop := 0 ≤ v ∧ M.getD v.toNat false = true
def wsub (M M' : List Bool) : Prop := M'.length = M.length ∧ ∀ i : Nat, M.getD i false = true → M'.getD i false = true
theorem wsub_refl (M : List Bool) : wsub M M := ⟨rfl, fun _ h => h⟩
theorem wsub_trans {A B C : List Bool} (h : wsub A B) (k : wsub B C) : wsub A C := ⟨k.1.trans h.1, fun i hi => k.2 i (h.2 i hi)⟩
theorem unm_le : ∀ {M M' : List Bool}, wsub M M' → unm M' ≤ unm M
  | [], [], _ => Nat.le_refl _
  | [], _ :: _, h => by have := h.1; simp at this
  | _ :: _, [], h => by have := h.1; simp at this
  | a :: M, b :: M', h => by
    have ih := unm_le (M := M) (M' := M') ⟨by simpa using h.1, fun i hi => by simpa using h.2 (i + 1) (by simpa using hi)⟩
    have h0 : a = true → b = true := fun ha => by simpa using h.2 0 (by simpa using ha)
    unfold unm at *
    cases a <;> cases b <;> simp at h0 ⊢ <;> omega
theorem getD_setB {M : List Bool} {i j : Nat} : (M.set i true).getD j false = if i = j ∧ i < M.length then true else M.getD j false := by
  rw [List.getD_eq_getElem?_getD, List.getD_eq_getElem?_getD, List.getElem?_set]
  by_cases h : i = j
  · subst h
    by_cases h2 : i < M.length
    · simp [h2]
    · simp [h2]
  · simp [h]
theorem wsub_set (M : List Bool) (i : Nat) : wsub M (M.set i true) := ⟨List.length_set, fun j hj => by rw [getD_setB]; split <;> simp_all⟩
theorem unm_set : ∀ {M : List Bool} {i : Nat}, i < M.length → M.getD i false = false → unm (M.set i true) + 1 = unm M
  | [], i, h, _ => by simp at h
  | b :: M, 0, _, h => by
    have h : b = false := by simpa using h
    subst h
    unfold unm; simp
  | b :: M, i + 1, h, h2 => by
    have ih := unm_set (M := M) (i := i) (by simpa using h) (by simpa using h2)
    unfold unm at *
    cases b <;> simp <;> omega
/-- What a search leaves. -/
structure WyO (n : Nat) (b : List Int) (l : List Ed) (F : List Int) (M : List Bool) (v : Int) (r : Option (List Nat) × List Bool) : Prop where
  sub : wsub M r.2
  yes : ∀ P, r.1 = some P → ∃ u : Int, 0 ≤ u ∧ u < n ∧ b.getD u.toNat 0 < 0 ∧ chain l P u v ∧ (∀ x ∈ P, x < 2 * l.length ∧ 0 < aR l F x ∧ ¬ met M (aT l x)) ∧ (P.map (aT l)).Nodup ∧ v ∉ P.map (aT l)
  no : r.1 = none → met r.2 v ∧ ∀ u : Int, met r.2 u → ¬ met M u → 0 ≤ b.getD u.toNat 0 ∧ ∀ x, x < 2 * l.length → aF l x = u → 0 < aR l F x → met r.2 (aT l x)
/-- The same for a part of the arcs: from 2 m - k on. -/
structure WjO (n : Nat) (b : List Int) (l : List Ed) (F : List Int) (M : List Bool) (v : Int) (k : Nat) (r : Option (List Nat) × List Bool) : Prop where
  sub : wsub M r.2
  yes : ∀ P, r.1 = some P → ∃ u : Int, 0 ≤ u ∧ u < n ∧ b.getD u.toNat 0 < 0 ∧ chain l P u v ∧ (∀ x ∈ P, x < 2 * l.length ∧ 0 < aR l F x ∧ ¬ met M (aT l x)) ∧ (P.map (aT l)).Nodup ∧ v ∉ P.map (aT l)
  no : r.1 = none → (∀ x, 2 * l.length - k ≤ x → x < 2 * l.length → aF l x = v → 0 < aR l F x → met r.2 (aT l x)) ∧ ∀ u : Int, met r.2 u → ¬ met M u → 0 ≤ b.getD u.toNat 0 ∧ ∀ x, x < 2 * l.length → aF l x = u → 0 < aR l F x → met r.2 (aT l x)
theorem met_sub {M M' : List Bool} (h : wsub M M') {v : Int} (k : met M v) : met M' v := ⟨k.1, h.2 _ k.2⟩
theorem chain_snoc {l : List Ed} {x : Nat} : ∀ {P : List Nat} {u w : Int}, chain l P u w → x / 2 < l.length → aT l x = w → chain l (P ++ [x]) u (aF l x)
  | [], u, w, h, hx, hw => ⟨hx, by have h : u = w := h; rw [h, hw], rfl⟩
  | y :: P, u, w, h, hx, hw => ⟨h.1, h.2.1, chain_snoc h.2.2 hx hw⟩
theorem wyJ_ok {n : Nat} {b : List Int} {l : List Ed} {F : List Int} (hn : nodes n l) {rec : List Bool → Int → Option (List Nat) × List Bool} {q : Nat}
    (hrec : ∀ (M : List Bool) (v : Int), M.length = n → unm M ≤ q → 0 ≤ v → v < n → M.getD v.toNat false = false → WyO n b l F M v (rec M v)) {v : Int} :
    ∀ (k : Nat) {M : List Bool}, k ≤ 2 * l.length → M.length = n → unm M ≤ q → met M v → WjO n b l F M v k (wyJ rec l F v k M)
  | 0, M, _, _, _, _ => ⟨wsub_refl M, fun P h => (by cases h), fun _ => ⟨fun x h1 h2 => by omega, fun u h1 h2 => absurd h1 h2⟩⟩
  | k + 1, M, hk, hM, hq, hv => by
    rw [wyJ]
    generalize hx : 2 * l.length - (k + 1) = x
    have hxm : x < 2 * l.length := by omega
    have hin := arc_in hn hxm
    by_cases hc : aF l x = v ∧ M.getD (aT l x).toNat false = false ∧ 0 < aR l F x
    · rw [if_pos hc]
      obtain ⟨c1, c2, c3⟩ := hc
      have hr := hrec M (aT l x) hM hq hin.2.2.2.1 hin.2.2.2.2 c2
      generalize rec M (aT l x) = r at *
      obtain ⟨r1, M'⟩ := r
      cases r1 with
      | some P =>
        obtain ⟨u, u0, u1, u2, u3, u4, u5, u6⟩ := hr.yes P rfl
        refine ⟨hr.sub, fun P' h => ?_, fun h => by cases h⟩
        have h : P ++ [x] = P' := by injection h
        subst h
        refine ⟨u, u0, u1, u2, by rw [← c1]; exact chain_snoc u3 (by omega) rfl, fun y hy => ?_, ?_, ?_⟩
        · rcases List.mem_append.1 hy with hy | hy
          · exact u4 y hy
          · obtain rfl : y = x := by simpa using hy
            exact ⟨hxm, c3, fun hm => by rw [hm.2] at c2; cases c2⟩
        · rw [List.map_append, List.nodup_append]
          refine ⟨u5, by simp, fun a ha c hc e => ?_⟩
          have : c = aT l x := by simpa using hc
          subst this; subst e
          exact u6 ha
        · rw [List.map_append, List.mem_append]
          rintro (h | h)
          · obtain ⟨y, hy, e⟩ := List.mem_map.1 h
            exact (u4 y hy).2.2 (e ▸ hv)
          · have : v = aT l x := by simpa using h
            rw [this] at hv
            rw [hv.2] at c2; cases c2
      | none =>
        obtain ⟨n1, n2⟩ := hr.no rfl
        have hs : wsub M M' := hr.sub
        have n1 : met M' (aT l x) := n1
        have n2 : ∀ u : Int, met M' u → ¬ met M u → 0 ≤ b.getD u.toNat 0 ∧ ∀ x, x < 2 * l.length → aF l x = u → 0 < aR l F x → met M' (aT l x) := n2
        have ih := wyJ_ok hn hrec k (M := M') (v := v) (by omega) (hs.1.trans hM) (Nat.le_trans (unm_le hs) hq) (met_sub hs hv)
        show WjO n b l F M v (k + 1) (wyJ rec l F v k M')
        refine ⟨wsub_trans hs ih.sub, fun P hP => ?_, fun h0 => ⟨fun y h1 h2 h3 h4 => ?_, fun u h1 h2 => ?_⟩⟩
        · obtain ⟨u, u0, u1, u2, u3, u4, u5⟩ := ih.yes P hP
          exact ⟨u, u0, u1, u2, u3, fun y hy => ⟨(u4 y hy).1, (u4 y hy).2.1, fun hm => (u4 y hy).2.2 (met_sub hs hm)⟩, u5⟩
        · by_cases e : y = x
          · subst e; exact met_sub ih.sub n1
          · exact (ih.no h0).1 y (by omega) h2 h3 h4
        · by_cases hm : met M' u
          · obtain ⟨g1, g2⟩ := n2 u hm h2
            exact ⟨g1, fun y hy hyu hyr => met_sub ih.sub (g2 y hy hyu hyr)⟩
          · exact (ih.no h0).2 u h1 hm
    · rw [if_neg hc]
      have ih := wyJ_ok hn hrec k (M := M) (v := v) (by omega) hM hq hv
      refine ⟨ih.sub, ih.yes, fun h0 => ⟨fun y h1 h2 h3 h4 => ?_, (ih.no h0).2⟩⟩
      by_cases e : y = x
      · subst e
        by_cases hm : M.getD (aT l y).toNat false = false
        · exact absurd ⟨h3, hm, h4⟩ hc
        · exact met_sub ih.sub ⟨hin.2.2.2.1, by simpa using hm⟩
      · exact (ih.no h0).1 y (by omega) h2 h3 h4
theorem wy_ok {n : Nat} {b : List Int} {l : List Ed} {F : List Int} (hn : nodes n l) : ∀ (q : Nat) {M : List Bool} {v : Int}, M.length = n → unm M ≤ q → 0 ≤ v → v < n → M.getD v.toNat false = false → WyO n b l F M v (wy b l F q M v)
  | 0, M, v, hM, hq, h0, h1, hv => by
    have := unm_set (M := M) (i := v.toNat) (by omega) hv
    omega
  | q + 1, M, v, hM, hq, h0, h1, hv => by
    have hu := unm_set (M := M) (i := v.toNat) (by omega) hv
    have hs := wsub_set M v.toNat
    have hm : met (M.set v.toNat true) v := ⟨h0, by rw [getD_setB, if_pos ⟨rfl, by omega⟩]⟩
    have hnv : ¬ met M v := fun h => by rw [h.2] at hv; cases hv
    rw [wy]
    by_cases hb : b.getD v.toNat 0 < 0
    · rw [if_pos hb]
      exact ⟨wsub_refl M, fun P h => by
        have h : [] = P := by injection h
        subst h
        exact ⟨v, h0, h1, hb, rfl, fun x hx => by simp at hx, List.nodup_nil, by simp⟩, fun h => by cases h⟩
    · rw [if_neg hb]
      have hj := wyJ_ok hn (b := b) (F := F) (rec := wy b l F q) (q := q) (fun M v a1 a2 a3 a4 a5 => wy_ok hn q a1 a2 a3 a4 a5) (v := v) (2 * l.length) (M := M.set v.toNat true) (Nat.le_refl _) (by rw [List.length_set]; exact hM) (by omega) hm
      generalize wyJ (wy b l F q) l F v (2 * l.length) (M.set v.toNat true) = r at *
      refine ⟨wsub_trans hs hj.sub, fun P hP => ?_, fun h => ⟨met_sub hj.sub hm, fun u h1 h2 => ?_⟩⟩
      · obtain ⟨u, u0, u1, u2, u3, u4, u5⟩ := hj.yes P hP
        exact ⟨u, u0, u1, u2, u3, fun y hy => ⟨(u4 y hy).1, (u4 y hy).2.1, fun hm => (u4 y hy).2.2 (met_sub hs hm)⟩, u5⟩
      · obtain ⟨g1, g2⟩ := hj.no h
        by_cases e : u = v
        · subst e
          exact ⟨by omega, fun x hx => g1 x (by omega) hx⟩
        · refine g2 u h1 fun hc => h2 ⟨hc.1, ?_⟩
          have := hc.2
          rw [getD_setB] at this
          split at this
          · rename_i he
            have := hc.1
            omega
          · exact this
/-- The last node with too much. -/
def top (b : List Int) : Nat → Int
  | 0 => -1
  | k + 1 => if 0 < b.getD k 0 then (k : Int) else top b k
theorem top_ok (b : List Int) : ∀ k, (top b k = -1 ∧ ∀ i, i < k → b.getD i 0 ≤ 0) ∨ (0 ≤ top b k ∧ top b k < k ∧ 0 < b.getD (top b k).toNat 0)
  | 0 => .inl ⟨rfl, fun i hi => by omega⟩
  | k + 1 => by
    rw [top]
    by_cases h : 0 < b.getD k 0
    · rw [if_pos h]
      exact .inr ⟨by omega, by omega, by rw [Int.toNat_natCast]; exact h⟩
    · rw [if_neg h]
      rcases top_ok b k with ⟨h1, h2⟩ | ⟨h1, h2, h3⟩
      · exact .inl ⟨h1, fun i hi => by
          by_cases e : i = k
          · subst e; omega
          · exact h2 i (by omega)⟩
      · exact .inr ⟨h1, by omega, h3⟩
/-- The balances of all nodes. -/
def bals (n : Nat) (l : List Ed) (F : List Int) : List Int := (List.range n).map fun v => bal l F (v : Nat)
theorem bals_get {n : Nat} {l : List Ed} {F : List Int} {v : Nat} (h : v < n) : (bals n l F).getD v 0 = bal l F v := by
  rw [bals, List.getD_eq_getElem?_getD, List.getElem?_map, List.getElem?_range h]; rfl
def wyF (n : Nat) (l : List Ed) (F : List Int) (v : Int) : Option (List Nat) × List Bool := wy (bals n l F) l F n (List.replicate n false) v
def fst1 (n : Nat) (l : List Ed) : Nat → List Int → Option (List Int)
  | 0, _ => none
  | q + 1, F => if top (bals n l F) n < 0 then some F else match (wyF n l F (top (bals n l F) n)).1 with
    | some P => fst1 n l q (pus 1 F P)
    | none => none
theorem unm_rep (n : Nat) : unm (List.replicate n false) = n := by unfold unm; simp
theorem wyF_ok {n : Nat} {l : List Ed} {F : List Int} (hn : nodes n l) {v : Int} (h0 : 0 ≤ v) (h1 : v < n) : WyO n (bals n l F) l F (List.replicate n false) v (wyF n l F v) :=
  wy_ok hn n (by simp) (by rw [unm_rep]; exact Nat.le_refl _) h0 h1 (by rw [List.getD_eq_getElem?_getD, List.getElem?_replicate]; split <;> rfl)
theorem not_met (n : Nat) (v : Int) : ¬ met (List.replicate n false) v := fun h => by
  have := h.2
  rw [List.getD_eq_getElem?_getD, List.getElem?_replicate] at this
  split at this <;> cases this
/-- A unit along a way. -/
theorem fpush {n : Nat} {l : List Ed} {F : List Int} (hn : nodes n l) (hF : inB l F) (ht : ¬ top (bals n l F) n < 0) {P : List Nat} (hP : (wyF n l F (top (bals n l F) n)).1 = some P) : inB l (pus 1 F P) ∧ exc n l (pus 1 F P) = exc n l F - 1 ∧ ∀ x ∈ P, x < 2 * l.length := by
  rcases top_ok (bals n l F) n with ⟨h1, _⟩ | ⟨h1, h2, h3⟩
  · omega
  · obtain ⟨u, u0, u1, u2, u3, u4, u5, u6⟩ := (wyF_ok (F := F) hn h1 h2).yes P hP
    have hE := edges_of u3 u5 u6
    rw [bals_get (by omega)] at h3 u2
    refine ⟨inB_pus hF (by omega) (fun x hx => ⟨by have := (u4 x hx).1; omega, by have := (u4 x hx).2.1; omega⟩) hE, ?_, fun x hx => (u4 x hx).1⟩
    refine exc_push (v := (top (bals n l F) n).toNat) (w := u.toNat) (by omega) (fun z => ?_) (by omega) (by omega) (by omega) (fun e => by rw [e] at h3; omega)
    rw [bal_pus 1 z (inB_iff.1 hF).1 u3, Int.toNat_of_nonneg u0, Int.toNat_of_nonneg h1]
/-- No way: what was met blocks. -/
theorem wyF_none {n : Nat} {l : List Ed} {F : List Int} (hn : nodes n l) (hF : inB l F) (ht : ¬ top (bals n l F) n < 0) (hP : (wyF n l F (top (bals n l F) n)).1 = none) : ∃ S : Int → Bool, 0 < over S l := by
  rcases top_ok (bals n l F) n with ⟨h1, _⟩ | ⟨h1, h2, h3⟩
  · omega
  · obtain ⟨n1, n2⟩ := (wyF_ok (F := F) hn h1 h2).no hP
    generalize (wyF n l F (top (bals n l F) n)).2 = M at *
    rw [bals_get (by omega)] at h3
    have hS : ∀ u : Int, (decide (0 ≤ u) && M.getD u.toNat false) = true ↔ met M u := fun u => by rw [Bool.and_eq_true, decide_eq_true_eq]; rfl
    refine ⟨fun u => decide (0 ≤ u) && M.getD u.toNat false, blocks hn hF (fun x hx hs hr => (hS _).2 ((n2 _ ((hS _).1 hs) (not_met n _)).2 x hx rfl hr)) (fun v hv hs => ?_) (z := (top (bals n l F) n).toNat) (by omega) ((hS _).2 (by rw [Int.toNat_of_nonneg h1]; exact n1)) h3⟩
    have := (n2 _ ((hS _).1 hs) (not_met n _)).1
    rwa [Int.toNat_natCast, bals_get hv] at this
theorem circ_of_top {n : Nat} {l : List Ed} {F : List Int} (hn : nodes n l) (ht : top (bals n l F) n < 0) : circ n l F := by
  refine src_none hn (find_range_no fun v hv => decide_eq_false ?_)
  rcases top_ok (bals n l F) n with ⟨_, h2⟩ | ⟨h1, _⟩
  · have := h2 v hv
    rw [bals_get hv] at this
    omega
  · omega
theorem fst1_ok {n : Nat} {l : List Ed} (hn : nodes n l) : ∀ (q : Nat) {F : List Int}, inB l F → exc n l F < q →
    (∃ G, fst1 n l q F = some G ∧ inB l G ∧ circ n l G) ∨ fst1 n l q F = none ∧ ∃ S : Int → Bool, 0 < over S l
  | 0, F, _, h => by have := exc_nn n l F; omega
  | q + 1, F, hF, h => by
    rw [fst1]
    by_cases ht : top (bals n l F) n < 0
    · rw [if_pos ht]
      exact .inl ⟨F, rfl, hF, circ_of_top hn ht⟩
    · rw [if_neg ht]
      cases hP : (wyF n l F (top (bals n l F) n)).1 with
      | none => exact .inr ⟨rfl, wyF_none hn hF ht hP⟩
      | some P =>
        obtain ⟨b1, b2, _⟩ := fpush hn hF ht hP
        exact fst1_ok hn q b1 (by omega)
end Go.Fl
