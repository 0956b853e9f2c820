/- Nodes reached from one: what the search leaves, and a way back from each. Plain. The program's balance: pushes from nodes with too much to nodes with too little, or a set that blocks. Plain. -/
import Derived.Test.YtkpidpmlehkjbaaWj
set_option linter.unusedSimpArgs false
set_option linter.unusedVariables false
namespace Go.Fl
open Go.V (mFind mSet)
section
variable {κ ν : Type} [DecidableEq κ]
theorem mf_none {l : List (κ × ν)} {k : κ} : mFind l k = none ↔ k ∉ l.map (·.1) := by
  induction l with
  | nil => simp [mFind]
  | cons p r ih =>
    rw [mFind, List.map_cons, List.mem_cons]
    by_cases h : p.1 = k
    · simp [h]
    · simp only [h, if_false, ih, not_or]
      exact ⟨fun q => ⟨fun e => h e.symm, q⟩, fun q => q.2⟩
theorem ms_new {k : κ} {v : ν} : ∀ {l : List (κ × ν)}, mFind l k = none → mSet l k v = l ++ [(k, v)]
  | [], _ => rfl
  | p :: r, h => by
    rw [mFind] at h
    split at h
    · cases h
    · rename_i e; rw [mSet, if_neg e, ms_new h]; rfl
theorem mf_app {k : κ} {m : List (κ × ν)} {x : ν} : ∀ {l : List (κ × ν)}, mFind l k = some x → mFind (l ++ m) k = some x
  | [], h => by cases h
  | p :: r, h => by
    rw [mFind] at h
    rw [List.cons_append, mFind]
    split at h
    · rename_i e; rw [if_pos e]; exact h
    · rename_i e; rw [if_neg e]; exact mf_app h
theorem mf_last {k : κ} {x : ν} : ∀ {l : List (κ × ν)}, k ∉ l.map (·.1) → mFind (l ++ [(k, x)]) k = some x
  | [], _ => by rw [List.nil_append, mFind, if_pos rfl]
  | p :: r, h => by
    rw [List.map_cons, List.mem_cons, not_or] at h
    rw [List.cons_append, mFind, if_neg (fun e => h.1 e.symm)]
    exact mf_last h.2
end
/-- Arcs that lead back from v to z, as entries tell. -/
def Along (l : List Ed) (E : List (Int × Nat)) (z : Int) : Int → List Nat → Prop
  | _, [] => False
  | v, x :: P => mFind E v = some x ∧ ((P = [] ∧ aF l x = z) ∨ (P ≠ [] ∧ aF l x ≠ z ∧ Along l E z (aF l x) P))
def rcA (l : List Ed) (F : List Int) (z v : Int) (x : Nat) (s : List (Int × Nat) × List Int) : List (Int × Nat) × List Int :=
  if aF l x = v ∧ aT l x ≠ z ∧ mFind s.1 (aT l x) = none ∧ aR l F x ≠ 0 then (mSet s.1 (aT l x) x, s.2 ++ [aT l x]) else s
def rcJ (l : List Ed) (F : List Int) (z v : Int) : Nat → List (Int × Nat) × List Int → List (Int × Nat) × List Int
  | 0, s => s
  | j + 1, s => rcA l F z v j (rcJ l F z v j s)
def rcQ (l : List Ed) (F : List Int) (z : Int) : Nat → List (Int × Nat) × List Int → List (Int × Nat)
  | 0, s => s.1
  | _ + 1, (E, []) => E
  | q + 1, (E, v :: Q) => rcQ l F z q (rcJ l F z v (2 * l.length) (E, Q))
def reach (n : Nat) (l : List Ed) (F : List Int) (z : Int) : List (Int × Nat) := rcQ l F z (n + 1) ([], [z])
inductive Rc (l : List Ed) (F : List Int) (z : Int) : List (Int × Nat) → Prop
  | nil : Rc l F z []
  | snoc {E : List (Int × Nat)} {x : Nat} : Rc l F z E → x < 2 * l.length → aR l F x ≠ 0 → aT l x ≠ z → aT l x ∉ E.map (·.1) → (aF l x = z ∨ aF l x ∈ E.map (·.1)) → Rc l F z (E ++ [(aT l x, x)])
theorem Along.app {l : List Ed} {E D : List (Int × Nat)} {z : Int} : ∀ {P : List Nat} {v : Int}, Along l E z v P → Along l (E ++ D) z v P
  | [], _, h => h.elim
  | x :: P, v, h => ⟨mf_app h.1, h.2.imp (fun h => h) fun ⟨a, b, c⟩ => ⟨a, b, c.app⟩⟩
theorem Rc.way {l : List Ed} {F : List Int} {z : Int} {E : List (Int × Nat)} (h : Rc l F z E) : z ∉ E.map (·.1) ∧ (E.map (·.1)).Nodup ∧ ∀ w, w ∈ E.map (·.1) → ∃ P, P ≠ [] ∧ Along l E z w P ∧ chain l P w z ∧ (∀ y ∈ P, y < 2 * l.length ∧ aR l F y ≠ 0 ∧ aT l y ∈ E.map (·.1)) ∧ (P.map (aT l)).Nodup := by
  induction h with
  | nil => exact ⟨by simp, List.nodup_nil, fun w h => by simp at h⟩
  | @snoc E x h1 h2 h3 h4 h5 h6 ih =>
    obtain ⟨i1, i2, i3⟩ := ih
    refine ⟨?_, ?_, fun w hw => ?_⟩
    · rw [List.map_append, List.mem_append]; simp; exact ⟨by simpa using i1, fun e => h4 e.symm⟩
    · rw [List.map_append, List.nodup_append]
      refine ⟨i2, by simp, fun a ha b hb => ?_⟩
      have : b = aT l x := by simpa using hb
      subst this
      exact fun e => h5 (e ▸ ha)
    · rw [List.map_append, List.mem_append] at hw
      rcases hw with hw | hw
      · obtain ⟨P, p0, p1, p2, p3, p4⟩ := i3 w hw
        refine ⟨P, p0, p1.app, p2, fun y hy => ?_, p4⟩
        obtain ⟨q1, q2, q3⟩ := p3 y hy
        exact ⟨q1, q2, by rw [List.map_append, List.mem_append]; exact .inl q3⟩
      · have hw : w = aT l x := by simpa using hw
        subst hw
        have hl : mFind (E ++ [(aT l x, x)]) (aT l x) = some x := mf_last h5
        have hm : aT l x ∈ (E ++ [(aT l x, x)]).map (·.1) := by simp
        by_cases hz : aF l x = z
        · exact ⟨[x], by simp, ⟨hl, .inl ⟨rfl, hz⟩⟩, ⟨by omega, rfl, hz⟩, fun y hy => by
            obtain rfl : y = x := by simpa using hy
            exact ⟨h2, h3, hm⟩, by simp⟩
        · rcases h6 with h6 | h6
          · exact absurd h6 hz
          obtain ⟨P, p0, p1, p2, p3, p4⟩ := i3 _ h6
          refine ⟨x :: P, by simp, ⟨hl, .inr ⟨p0, hz, p1.app⟩⟩, ⟨by omega, rfl, p2⟩, fun y hy => ?_, ?_⟩
          · rcases List.mem_cons.1 hy with rfl | hy
            · exact ⟨h2, h3, hm⟩
            · obtain ⟨q1, q2, q3⟩ := p3 y hy
              exact ⟨q1, q2, by rw [List.map_append, List.mem_append]; exact .inl q3⟩
          · rw [List.map_cons, List.nodup_cons]
            refine ⟨fun hm => ?_, p4⟩
            obtain ⟨y, hy, e⟩ := List.mem_map.1 hm
            exact h5 (e ▸ (p3 y hy).2.2)
theorem chain_from {l : List Ed} : ∀ {P : List Nat} {v u : Int}, chain l P v u → ∀ y ∈ P, aF l y ∈ P.map (aT l) ∨ aF l y = u
  | x :: P, v, u, ⟨_, _, h⟩, y, hy => by
    rcases List.mem_cons.1 hy with rfl | hy
    · cases P with
      | nil => exact .inr h
      | cons x' P => exact .inl (by simp [h.2.1])
    · rcases chain_from h y hy with h | h
      · exact .inl (by rw [List.map_cons]; exact List.mem_cons_of_mem _ h)
      · exact .inr h
/-- A way through different nodes goes along different edges. -/
theorem edges_of {l : List Ed} : ∀ {P : List Nat} {v u : Int}, chain l P v u → (P.map (aT l)).Nodup → u ∉ P.map (aT l) → (P.map (· / 2)).Nodup
  | [], _, _, _, _, _ => List.nodup_nil
  | x :: P, v, u, h, hn, hu => by
    rw [List.map_cons, List.nodup_cons] at hn
    rw [List.map_cons, List.mem_cons, not_or] at hu
    rw [List.map_cons, List.nodup_cons]
    refine ⟨fun hm => ?_, edges_of h.2.2 hn.2 hu.2⟩
    obtain ⟨y, hy, e⟩ := List.mem_map.1 hm
    by_cases hxy : y = x
    · subst hxy; exact hn.1 (List.mem_map_of_mem hy)
    · have e2 : aT l x = aF l y := by
        rw [aT, aF]
        have e : y / 2 = x / 2 := e
        rw [e]
        by_cases h2 : x % 2 = 0
        · rw [if_pos h2, if_neg (by omega)]
        · rw [if_neg h2, if_pos (by omega)]
      rcases chain_from h.2.2 y hy with h3 | h3
      · exact hn.1 (e2 ▸ h3)
      · exact hu.1 (h3.symm.trans e2.symm)
def Cl (l : List Ed) (F : List Int) (z v : Int) (j : Nat) (s : List (Int × Nat) × List Int) : Prop :=
  ∀ u, (u = z ∨ u ∈ s.1.map (·.1)) → u ∉ s.2 → ∀ x, x < 2 * l.length → aF l x = u → (u ≠ v ∨ x < j) → aR l F x ≠ 0 → aT l x = z ∨ aT l x ∈ s.1.map (·.1)
structure RcI (n : Nat) (l : List Ed) (F : List Int) (z v : Int) (j : Nat) (s : List (Int × Nat) × List Int) : Prop where
  r : Rc l F z s.1
  c : Cl l F z v j s
  q : ∀ u ∈ s.2, u = z ∨ u ∈ s.1.map (·.1)
theorem rcA_ok {n : Nat} {l : List Ed} {F : List Int} {z v : Int} {x : Nat} {s : List (Int × Nat) × List Int} (hx : x < 2 * l.length) (hv : v = z ∨ v ∈ s.1.map (·.1)) (h : RcI n l F z v x s) :
    RcI n l F z v (x + 1) (rcA l F z v x s) ∧ (v = z ∨ v ∈ (rcA l F z v x s).1.map (·.1)) ∧ (rcA l F z v x s).1.length + s.2.length = (rcA l F z v x s).2.length + s.1.length := by
  rw [rcA]
  by_cases hc : aF l x = v ∧ aT l x ≠ z ∧ mFind s.1 (aT l x) = none ∧ aR l F x ≠ 0
  · obtain ⟨c1, c2, c3, c4⟩ := hc
    rw [if_pos ⟨c1, c2, c3, c4⟩, ms_new c3]
    have hk : aT l x ∉ s.1.map (·.1) := mf_none.1 c3
    refine ⟨⟨h.r.snoc hx c4 c2 hk (by rw [c1]; exact hv), fun u hu hq y hy hyu hj hR => ?_, fun u hu => ?_⟩, ?_, ?_⟩
    · show aT l y = z ∨ aT l y ∈ (s.1 ++ [(aT l x, x)]).map (·.1)
      have hu : u = z ∨ u ∈ (s.1 ++ [(aT l x, x)]).map (·.1) := hu
      have hq : u ∉ s.2 ++ [aT l x] := hq
      rw [List.map_append, List.mem_append] at hu ⊢
      rw [List.mem_append, not_or] at hq
      have hne : u ≠ aT l x := by simpa using hq.2
      have hu2 : u = z ∨ u ∈ s.1.map (·.1) := by
        rcases hu with hu | hu | hu
        · exact .inl hu
        · exact .inr hu
        · exact absurd (by simpa using hu) hne
      by_cases hyx : y = x
      · subst hyx; exact .inr (.inr (by simp))
      · rcases h.c u hu2 hq.1 y hy hyu (hj.imp (fun h => h) (fun h => by omega)) hR with h | h
        · exact .inl h
        · exact .inr (.inl h)
    · have hu : u ∈ s.2 ++ [aT l x] := hu
      show u = z ∨ u ∈ (s.1 ++ [(aT l x, x)]).map (·.1)
      rw [List.map_append, List.mem_append]
      rcases List.mem_append.1 hu with hu | hu
      · rcases h.q u hu with h | h
        · exact .inl h
        · exact .inr (.inl h)
      · exact .inr (.inr (by simpa using hu))
    · show v = z ∨ v ∈ (s.1 ++ [(aT l x, x)]).map (·.1)
      rw [List.map_append, List.mem_append]
      rcases hv with h | h
      · exact .inl h
      · exact .inr (.inl h)
    · simp; omega
  · rw [if_neg hc]
    refine ⟨⟨h.r, fun u hu hq y hy hyu hj hR => ?_, h.q⟩, hv, by omega⟩
    by_cases hyx : y = x ∧ u = v
    · obtain ⟨rfl, rfl⟩ := hyx
      by_cases hz : aT l y = z
      · exact .inl hz
      · by_cases hf : mFind s.1 (aT l y) = none
        · exact absurd ⟨hyu, hz, hf, hR⟩ hc
        · exact .inr (by
            by_cases hm : aT l y ∈ s.1.map (·.1)
            · exact hm
            · exact absurd (mf_none.2 hm) hf)
    · exact h.c u hu hq y hy hyu (by
        by_cases hu : u = v
        · exact .inr (by rcases hj with hj | hj; exact absurd hu hj; have : y ≠ x := fun e => hyx ⟨e, hu⟩; omega)
        · exact .inl hu) hR
theorem rcJ_ok {n : Nat} {l : List Ed} {F : List Int} {z v : Int} {s : List (Int × Nat) × List Int} (hv : v = z ∨ v ∈ s.1.map (·.1)) (h : RcI n l F z v 0 s) : ∀ {j : Nat}, j ≤ 2 * l.length →
    RcI n l F z v j (rcJ l F z v j s) ∧ (v = z ∨ v ∈ (rcJ l F z v j s).1.map (·.1)) ∧ (rcJ l F z v j s).1.length + s.2.length = (rcJ l F z v j s).2.length + s.1.length
  | 0, _ => ⟨h, hv, by show s.1.length + s.2.length = s.2.length + s.1.length; omega⟩
  | j + 1, hj => by
    obtain ⟨h1, h2, h3⟩ := rcJ_ok hv h (j := j) (by omega)
    obtain ⟨g1, g2, g3⟩ := rcA_ok (n := n) (show j < 2 * l.length by omega) h2 h1
    exact ⟨g1, g2, by rw [rcJ]; omega⟩
theorem nd_len {n : Nat} {K : List Int} (hnd : K.Nodup) (hr : ∀ w : Int, w ∈ K → 0 ≤ w ∧ w < n) : K.length ≤ n := by
  apply Nat.le_of_not_lt
  intro hlt
  have gm : ∀ i, i ≤ n → K.getD i 0 ∈ K := fun i hi => by
    rw [List.getD_eq_getElem?_getD, List.getElem?_eq_getElem (by omega)]; exact List.getElem_mem _
  obtain ⟨i, j, hij, hj, e⟩ := pigeon n (fun i => (K.getD i 0).toNat) (fun i hi => by
    have := hr _ (gm i hi)
    show (K.getD i 0).toNat < n
    omega)
  have r1 := hr _ (gm i (by omega))
  have r2 := hr _ (gm j hj)
  have e : K.getD i 0 = K.getD j 0 := by
    have e : (K.getD i 0).toNat = (K.getD j 0).toNat := e
    omega
  rw [List.getD_eq_getElem?_getD, List.getD_eq_getElem?_getD, List.getElem?_eq_getElem (show i < K.length by omega), List.getElem?_eq_getElem (show j < K.length by omega)] at e
  exact absurd ((List.getElem_inj hnd).1 e) (by omega)
/-- The keys are nodes, all different, so there are at most n. -/
theorem Rc.len {n : Nat} {l : List Ed} {F : List Int} {z : Int} {E : List (Int × Nat)} (hn : nodes n l) (h : Rc l F z E) : E.length ≤ n ∧ ∀ w : Int, w ∈ E.map (·.1) → 0 ≤ w ∧ w < n := by
  have hr : ∀ w : Int, w ∈ E.map (·.1) → 0 ≤ w ∧ w < n := by
    induction h with
    | nil => intro w h; simp at h
    | @snoc E x h1 h2 h3 h4 h5 h6 ih =>
      intro w hw
      rw [List.map_append, List.mem_append] at hw
      rcases hw with hw | hw
      · exact ih w hw
      · have hw : w = aT l x := by simpa using hw
        have := arc_in hn h2
        omega
  refine ⟨?_, hr⟩
  have := nd_len h.way.2.1 hr
  rw [List.length_map] at this
  exact this
structure RcO (n : Nat) (l : List Ed) (F : List Int) (z : Int) (E : List (Int × Nat)) : Prop where
  r : Rc l F z E
  c : ∀ u, (u = z ∨ u ∈ E.map (·.1)) → ∀ x, x < 2 * l.length → aF l x = u → aR l F x ≠ 0 → aT l x = z ∨ aT l x ∈ E.map (·.1)
/-- One node taken from the queue. -/
theorem rcQ_step {n : Nat} {l : List Ed} {F : List Int} {z v : Int} {E : List (Int × Nat)} {Q : List Int} (h : RcI n l F z (-1) 0 (E, v :: Q)) (hz : 0 ≤ z) (hn : nodes n l) :
    RcI n l F z v 0 (E, Q) ∧ (v = z ∨ v ∈ E.map (·.1)) ∧ RcI n l F z (-1) 0 (rcJ l F z v (2 * l.length) (E, Q)) ∧ (rcJ l F z v (2 * l.length) (E, Q)).1.length + Q.length = (rcJ l F z v (2 * l.length) (E, Q)).2.length + E.length := by
  have hv := h.q v (by simp)
  have h0 : RcI n l F z v 0 (E, Q) := ⟨h.r, fun u hu hq x hx hxu hj hR => h.c u hu (fun hm => by
    rcases List.mem_cons.1 hm with hm | hm
    · rcases hj with hj | hj
      · exact hj hm
      · omega
    · exact hq hm) x hx hxu (.inl (by
      rcases hu with rfl | hu
      · omega
      · have := (h.r.len hn).2 u hu
        omega)) hR, fun u hu => h.q u (by simp [hu])⟩
  obtain ⟨g1, g2, g3⟩ := rcJ_ok (n := n) (s := (E, Q)) hv h0 (j := 2 * l.length) (Nat.le_refl _)
  exact ⟨h0, hv, ⟨g1.r, fun u hu hq x hx hxu _ hR => g1.c u hu hq x hx hxu (.inr hx) hR, g1.q⟩, g3⟩
theorem rcQ_ok {n : Nat} {l : List Ed} {F : List Int} {z : Int} (hz : 0 ≤ z) (hn : nodes n l) : ∀ (q : Nat) (s : List (Int × Nat) × List Int), RcI n l F z (-1) 0 s → n + s.2.length ≤ q + s.1.length → RcO n l F z (rcQ l F z q s)
  | 0, (E, Q), h, hq => by
    have : E.length ≤ n := (h.r.len hn).1
    have hQ : Q = [] := List.length_eq_zero_iff.1 (by have hq : n + Q.length ≤ 0 + E.length := hq; omega)
    subst hQ
    exact ⟨h.r, fun u hu x hx hxu hR => h.c u hu (by simp) x hx hxu (.inl (by
      have := arc_in hn hx
      omega)) hR⟩
  | q + 1, (E, []), h, hq => ⟨h.r, fun u hu x hx hxu hR => h.c u hu (by simp) x hx hxu (.inl (by
      have := arc_in hn hx
      omega)) hR⟩
  | q + 1, (E, v :: Q), h, hq => by
    obtain ⟨_, _, g, e⟩ := rcQ_step h hz hn
    refine rcQ_ok hz hn q _ g ?_
    simp at hq
    omega
theorem rcI_zero {n : Nat} {l : List Ed} {F : List Int} {z : Int} : RcI n l F z (-1) 0 ([], [z]) := ⟨.nil, fun u hu hq x hx hxu _ hR => by
  rcases hu with rfl | hu
  · simp at hq
  · simp at hu, fun u hu => .inl (by simpa using hu)⟩
theorem reach_ok {n : Nat} {l : List Ed} {F : List Int} {z : Int} (hz : 0 ≤ z) (hn : nodes n l) : RcO n l F z (reach n l F z) := rcQ_ok hz hn _ _ rcI_zero (by simp)
end Go.Fl

namespace Go.Fl
open Go.V (mFind mSet)
/-- The arcs back from a node, by the entries. -/
def alg (l : List Ed) (E : List (Int × Nat)) (z : Int) : Nat → Int → List Nat
  | 0, _ => []
  | q + 1, v => match mFind E v with
    | none => []
    | some x => x :: if aF l x = z then [] else alg l E z q (aF l x)
theorem alg_eq {l : List Ed} {E : List (Int × Nat)} {z : Int} : ∀ {P : List Nat} {q : Nat} {v : Int}, Along l E z v P → P.length ≤ q → alg l E z q v = P
  | [], _, _, h, _ => h.elim
  | x :: P, 0, _, _, h => by simp at h
  | x :: P, q + 1, v, ⟨h1, h2⟩, hq => by
    rw [alg, h1]
    rcases h2 with ⟨rfl, h3⟩ | ⟨h3, h4, h5⟩
    · show x :: (if aF l x = z then [] else _) = _
      rw [if_pos h3]
    · show x :: (if aF l x = z then [] else _) = _
      rw [if_neg h4, alg_eq h5 (by simpa using hq)]
/-- The first node with too much; the first node with too little that is reached from it. -/
def src (n : Nat) (l : List Ed) (F : List Int) : Option Nat := (List.range n).find? fun v => decide (0 < bal l F v)
def snk (n : Nat) (l : List Ed) (F : List Int) (v : Nat) : Option Nat := (List.range n).find? fun w => (mFind (reach n l F v) (w : Int)).isSome && decide (bal l F w < 0)
def blkS (n : Nat) (l : List Ed) (F : List Int) (v : Nat) (w : Int) : Bool := decide (w = v) || (mFind (reach n l F v) w).isSome
/-- Along which arcs balance pushes, and how much. -/
def bwy (n : Nat) (l : List Ed) (F : List Int) (v w : Nat) : List Nat := alg l (reach n l F v) v n w
def bmo (n : Nat) (l : List Ed) (F : List Int) (v w : Nat) : Int := room l F (min (bal l F v) (-bal l F w)) (bwy n l F v w)
def bln (n : Nat) (l : List Ed) : Nat → List Int → List Int × Option Nat
  | 0, F => (F, none)
  | q + 1, F => match src n l F with
    | none => (F, none)
    | some v => match snk n l F v with
      | some w => bln n l q (pus (bmo n l F v w) F (bwy n l F v w))
      | none => (F, some v)
def exc (n : Nat) (l : List Ed) (F : List Int) : Int := sumN (fun v => max 0 (bal l F v)) n
theorem find_range {p : Nat → Bool} {n v : Nat} (h : (List.range n).find? p = some v) : v < n ∧ p v = true ∧ ∀ u, u < v → p u = false := by
  obtain ⟨h1, i, hi, h2, h3⟩ := List.find?_eq_some_iff_getElem.1 h
  rw [List.getElem_range] at h2
  subst h2
  rw [List.length_range] at hi
  refine ⟨hi, h1, fun u hu => ?_⟩
  have := h3 u hu
  rw [List.getElem_range] at this
  simpa using this
theorem find_range_none {p : Nat → Bool} {n : Nat} (h : (List.range n).find? p = none) : ∀ u, u < n → p u = false := fun u hu => by
  have := List.find?_eq_none.1 h u (List.mem_range.2 hu)
  simpa using this
theorem find_range_of {p : Nat → Bool} {n v : Nat} (hv : v < n) (h : p v = true) (h2 : ∀ u, u < v → p u = false) : (List.range n).find? p = some v := by
  cases hf : (List.range n).find? p with
  | none => exact absurd (find_range_none hf v hv) (by rw [h]; simp)
  | some w =>
    obtain ⟨a, b, c⟩ := find_range hf
    rcases Nat.lt_trichotomy v w with e | e | e
    · exact absurd (c v e) (by rw [h]; simp)
    · rw [e]
    · exact absurd (h2 w e) (by rw [b]; simp)
theorem find_range_no {p : Nat → Bool} {n : Nat} (h : ∀ u, u < n → p u = false) : (List.range n).find? p = none := by
  cases hf : (List.range n).find? p with
  | none => rfl
  | some w =>
    obtain ⟨a, b, c⟩ := find_range hf
    exact absurd (h w a) (by rw [b]; simp)
theorem exc_nn (n : Nat) (l : List Ed) (F : List Int) : 0 ≤ exc n l F := (sumN_pos fun v _ => Int.le_max_left _ _).1
/-- What is pushed from v to w. -/
theorem exc_push {n : Nat} {l : List Ed} {F G : List Int} {v w : Nat} {d : Int} (hv : v < n) (hb : ∀ u : Int, bal l G u = bal l F u + ((if (w : Int) = u then d else 0) - (if (v : Int) = u then d else 0))) (hd : 0 ≤ d) (h1 : d ≤ bal l F v) (h2 : d ≤ -bal l F w) (hvw : v ≠ w) : exc n l G = exc n l F - d := by
  have e := sumN_one (fun _ => 1) (-d) v n (by omega) (by omega)
  rw [exc, exc, show sumN (fun u => max 0 (bal l G u)) n = sumN (fun u => max 0 (bal l F u) + 1 * (if (v : Int) = (u : Int) then -d else 0)) n from sumN_congr fun u hu => ?_, sumN_add, e]
  · omega
  · rw [hb u]
    by_cases e1 : (w : Int) = (u : Int)
    · have e2 : ¬ (v : Int) = (u : Int) := by omega
      rw [if_pos e1, if_neg e2, if_neg e2]
      have : (u : Int) = w := e1.symm
      rw [this]
      omega
    · rw [if_neg e1]
      by_cases e2 : (v : Int) = (u : Int)
      · rw [if_pos e2, if_pos e2]
        have : (u : Int) = v := e2.symm
        rw [this]
        omega
      · rw [if_neg e2, if_neg e2]; omega
theorem aR_nn {l : List Ed} {F : List Int} (hF : inB l F) {x : Nat} (hx : x < 2 * l.length) : 0 ≤ aR l F x := by
  have := (inB_iff.1 hF).2 (x / 2) (by omega)
  rw [aR]
  split <;> omega
/-- A push of balance. -/
theorem bpush {n : Nat} {l : List Ed} {F : List Int} (hn : nodes n l) (hF : inB l F) {v w : Nat} (hv : src n l F = some v) (hw : snk n l F v = some w) :
    v < n ∧ w < n ∧ Along l (reach n l F v) v w (bwy n l F v w) ∧ (∀ x ∈ bwy n l F v w, x < 2 * l.length ∧ aR l F x ≠ 0) ∧ ((bwy n l F v w).map (· / 2)).Nodup ∧ chain l (bwy n l F v w) w v ∧ 1 ≤ bmo n l F v w ∧ inB l (pus (bmo n l F v w) F (bwy n l F v w)) ∧ exc n l (pus (bmo n l F v w) F (bwy n l F v w)) = exc n l F - bmo n l F v w := by
  obtain ⟨v1, v2, _⟩ := find_range hv
  obtain ⟨w1, w2, _⟩ := find_range hw
  have hR := reach_ok (F := F) (z := (v : Int)) (by omega) hn
  have v2 : 0 < bal l F v := of_decide_eq_true v2
  rw [Bool.and_eq_true, decide_eq_true_eq] at w2
  obtain ⟨w2, w3⟩ := w2
  have hk : (w : Int) ∈ (reach n l F v).map (·.1) := by
    by_cases hm : (w : Int) ∈ (reach n l F v).map (·.1)
    · exact hm
    · rw [mf_none.2 hm] at w2; cases w2
  obtain ⟨q1, q2, q3⟩ := hR.r.way
  obtain ⟨P, p0, p1, p2, p3, p4⟩ := q3 _ hk
  have hlen : P.length ≤ n := by
    have := nd_len (n := n) p4 (fun u hu => by
      obtain ⟨y, hy, e⟩ := List.mem_map.1 hu
      have := arc_in hn (p3 y hy).1
      omega)
    rwa [List.length_map] at this
  have hP : bwy n l F v w = P := alg_eq p1 hlen
  have hE : (P.map (· / 2)).Nodup := edges_of p2 p4 fun hm => by
    obtain ⟨y, hy, e⟩ := List.mem_map.1 hm
    exact q1 (e ▸ (p3 y hy).2.2)
  obtain ⟨r1, r2, r3⟩ := room_le (l := l) (F := F) (P := P) (m := min (bal l F v) (-bal l F w))
  have hd : bmo n l F v w = room l F (min (bal l F v) (-bal l F w)) P := by rw [bmo, hP]
  rw [hP, hd]
  have h1 : 1 ≤ room l F (min (bal l F v) (-bal l F w)) P := r3 1 (by omega) fun x hx => by
    have := aR_nn hF (p3 x hx).1
    have := (p3 x hx).2.1
    omega
  have hvw : v ≠ w := fun e => by subst e; omega
  refine ⟨v1, w1, p1, fun x hx => ⟨(p3 x hx).1, (p3 x hx).2.1⟩, hE, p2, h1, inB_pus hF (by omega) (fun x hx => ⟨by have := (p3 x hx).1; omega, r2 x hx⟩) hE, ?_⟩
  exact exc_push v1 (fun u => bal_pus _ u (inB_iff.1 hF).1 p2) (by omega) (by omega) (by omega) hvw
theorem src_none {n : Nat} {l : List Ed} {F : List Int} (hn : nodes n l) (h : src n l F = none) : circ n l F := by
  have h1 : ∀ v : Nat, v < n → bal l F v ≤ 0 := fun v hv => by
    have := of_decide_eq_false (find_range_none h v hv)
    omega
  have h2 := pot_sum (fun _ => 1) n l F hn
  have h3 : pot (fun _ => 1) l F = 0 := by
    have : ∀ (l : List Ed) (F : List Int), pot (fun _ => 1) l F = 0 := fun l => by
      induction l with
      | nil => intro F; cases F <;> rfl
      | cons e l ih =>
        intro F
        cases F with
        | nil => rfl
        | cons f F => rw [pot, ih]; simp
    exact this l F
  rw [h3, show sumN (fun v => 1 * bal l F v) n = sumN (fun v => bal l F v) n from sumN_congr fun v _ => Int.one_mul _] at h2
  have h4 := sumN_pos (g := fun v => - bal l F v) (n := n) (fun v hv => by have := h1 v hv; omega)
  have h5 : sumN (fun v => - bal l F v) n = - sumN (fun v => bal l F v) n := by
    have : ∀ m, sumN (fun v : Nat => - bal l F v) m = - sumN (fun v : Nat => bal l F v) m := fun m => by
      induction m with
      | zero => rfl
      | succ m ih => rw [sumN, sumN, ih]; omega
    exact this n
  intro v hv
  by_cases hz : bal l F v = 0
  · exact hz
  · have := h4.2 ⟨v, hv, by have := h1 v hv; omega⟩
    omega
/-- No node with too little is reached: the nodes reached block. -/
theorem snk_none {n : Nat} {l : List Ed} {F : List Int} (hn : nodes n l) (hF : inB l F) {v : Nat} (hv : src n l F = some v) (hw : snk n l F v = none) : 0 < over (blkS n l F v) l := by
  obtain ⟨v1, v2, _⟩ := find_range hv
  have v2 : 0 < bal l F v := of_decide_eq_true v2
  have hR := reach_ok (F := F) (z := (v : Int)) (by omega) hn
  have hS : ∀ u : Int, blkS n l F v u = true ↔ u = v ∨ u ∈ (reach n l F v).map (·.1) := fun u => by
    rw [blkS, Bool.or_eq_true, decide_eq_true_eq]
    by_cases hm : u ∈ (reach n l F v).map (·.1)
    · have : (mFind (reach n l F v) u).isSome = true := by
        cases hf : mFind (reach n l F v) u with
        | none => exact absurd hm (mf_none.1 hf)
        | some x => rfl
      simp only [hm, this]
    · rw [mf_none.2 hm]; simp only [hm, Option.isSome_none, Bool.false_eq_true]
  refine blocks hn hF (fun x hx hs hr => ?_) (fun u hu hs => ?_) v1 ((hS v).2 (.inl rfl)) v2
  · rcases hR.c _ ((hS _).1 hs) x hx rfl (by omega) with h | h
    · exact (hS _).2 (.inl h)
    · exact (hS _).2 (.inr h)
  · have := find_range_none hw u hu
    rcases (hS u).1 hs with h | h
    · have : u = v := by omega
      subst this; omega
    · have e : (mFind (reach n l F v) (u : Int)).isSome = true := by
        cases hf : mFind (reach n l F v) (u : Int) with
        | none => exact absurd h (mf_none.1 hf)
        | some x => rfl
      have this : ((mFind (reach n l F v) (u : Int)).isSome && decide (bal l F u < 0)) = false := this
      rw [e, Bool.true_and, decide_eq_false_iff_not] at this
      omega
theorem bln_c {n : Nat} {l : List Ed} {q : Nat} {F : List Int} (hv : src n l F = none) : bln n l (q + 1) F = (F, none) := by rw [bln, hv]
theorem bln_b {n : Nat} {l : List Ed} {q : Nat} {F : List Int} {v : Nat} (hv : src n l F = some v) (hw : snk n l F v = none) : bln n l (q + 1) F = (F, some v) := by rw [bln, hv]; simp only [hw]
theorem bln_a {n : Nat} {l : List Ed} {q : Nat} {F : List Int} {v w : Nat} (hv : src n l F = some v) (hw : snk n l F v = some w) : bln n l (q + 1) F = bln n l q (pus (bmo n l F v w) F (bwy n l F v w)) := by rw [bln, hv]; simp only [hw]
theorem bln_ok {n : Nat} {l : List Ed} (hn : nodes n l) : ∀ (q : Nat) {F : List Int}, inB l F → exc n l F < q →
    inB l (bln n l q F).1 ∧ ((bln n l q F).2 = none ∧ circ n l (bln n l q F).1 ∨ ∃ v, (bln n l q F).2 = some v ∧ v < n ∧ 0 < over (blkS n l (bln n l q F).1 v) l)
  | 0, F, _, h => by have := exc_nn n l F; omega
  | q + 1, F, hF, h => by
    cases hv : src n l F with
    | none =>
      rw [bln_c hv]
      exact ⟨hF, .inl ⟨rfl, src_none hn hv⟩⟩
    | some v =>
      cases hw : snk n l F v with
      | none =>
        rw [bln_b hv hw]
        exact ⟨hF, .inr ⟨v, rfl, (find_range hv).1, snk_none hn hF hv hw⟩⟩
      | some w =>
        rw [bln_a hv hw]
        obtain ⟨_, _, _, _, _, _, b1, b2, b3⟩ := bpush hn hF hv hw
        exact bln_ok hn q b2 (by omega)
end Go.Fl
