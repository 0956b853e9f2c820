/- Nodes reached from one: what the search leaves, and a way back from each. Plain. -/
import Derived.Test.YtkpidpmlehkjbaaWj
set_option linter.unusedSimpArgs false
set_option linter.unusedVariables false
namespace Go.Fl
open Go.V (mFind mSet)
section
variable {κ ν : Type} [DecidableEq κ]
theorem mf_none {l : List (κ × ν)} {k : κ} : mFind l k = none ↔ k ∉ l.map (·.1) := by
  induction l with
  | nil => simp [mFind]
  | cons p r ih =>
    rw [mFind, List.map_cons, List.mem_cons]
    by_cases h : p.1 = k
    · simp [h]
    · simp only [h, if_false, ih, not_or]
      exact ⟨fun q => ⟨fun e => h e.symm, q⟩, fun q => q.2⟩
theorem ms_new {k : κ} {v : ν} : ∀ {l : List (κ × ν)}, mFind l k = none → mSet l k v = l ++ [(k, v)]
  | [], _ => rfl
  | p :: r, h => by
    rw [mFind] at h
    split at h
    · cases h
    · rename_i e; rw [mSet, if_neg e, ms_new h]; rfl
theorem mf_app {k : κ} {m : List (κ × ν)} {x : ν} : ∀ {l : List (κ × ν)}, mFind l k = some x → mFind (l ++ m) k = some x
  | [], h => by cases h
  | p :: r, h => by
    rw [mFind] at h
    rw [List.cons_append, mFind]
    split at h
    · rename_i e; rw [if_pos e]; exact h
    · rename_i e; rw [if_neg e]; exact mf_app h
theorem mf_last {k : κ} {x : ν} : ∀ {l : List (κ × ν)}, k ∉ l.map (·.1) → mFind (l ++ [(k, x)]) k = some x
  | [], _ => by rw [List.nil_append, mFind, if_pos rfl]
  | p :: r, h => by
    rw [List.map_cons, List.mem_cons, not_or] at h
    rw [List.cons_append, mFind, if_neg (fun e => h.1 e.symm)]
    exact mf_last h.2
end
/-- Arcs that lead back from v to z, as entries tell. -/
def Along (l : List Ed) (E : List (Int × Nat)) (z : Int) : Int → List Nat → Prop
  | _, [] => False
  | v, x :: P => mFind E v = some x ∧ ((P = [] ∧ aF l x = z) ∨ (P ≠ [] ∧ aF l x ≠ z ∧ Along l E z (aF l x) P))
def rcA (l : List Ed) (F : List Int) (z v : Int) (x : Nat) (s : List (Int × Nat) × List Int) : List (Int × Nat) × List Int :=
  if aF l x = v ∧ aT l x ≠ z ∧ mFind s.1 (aT l x) = none ∧ aR l F x ≠ 0 then (mSet s.1 (aT l x) x, s.2 ++ [aT l x]) else s
def rcJ (l : List Ed) (F : List Int) (z v : Int) : Nat → List (Int × Nat) × List Int → List (Int × Nat) × List Int
  | 0, s => s
  | j + 1, s => rcA l F z v j (rcJ l F z v j s)
def rcQ (l : List Ed) (F : List Int) (z : Int) : Nat → List (Int × Nat) × List Int → List (Int × Nat)
  | 0, s => s.1
  | _ + 1, (E, []) => E
  | q + 1, (E, v :: Q) => rcQ l F z q (rcJ l F z v (2 * l.length) (E, Q))
def reach (n : Nat) (l : List Ed) (F : List Int) (z : Int) : List (Int × Nat) := rcQ l F z (n + 1) ([], [z])
inductive Rc (l : List Ed) (F : List Int) (z : Int) : List (Int × Nat) → Prop
  | nil : Rc l F z []
  | snoc {E : List (Int × Nat)} {x : Nat} : Rc l F z E → x < 2 * l.length → aR l F x ≠ 0 → aT l x ≠ z → aT l x ∉ E.map (·.1) → (aF l x = z ∨ aF l x ∈ E.map (·.1)) → Rc l F z (E ++ [(aT l x, x)])
theorem Along.app {l : List Ed} {E D : List (Int × Nat)} {z : Int} : ∀ {P : List Nat} {v : Int}, Along l E z v P → Along l (E ++ D) z v P
  | [], _, h => h.elim
  | x :: P, v, h => ⟨mf_app h.1, h.2.imp (fun h => h) fun ⟨a, b, c⟩ => ⟨a, b, c.app⟩⟩
theorem Rc.way {l : List Ed} {F : List Int} {z : Int} {E : List (Int × Nat)} (h : Rc l F z E) : z ∉ E.map (·.1) ∧ (E.map (·.1)).Nodup ∧ ∀ w, w ∈ E.map (·.1) → ∃ P, P ≠ [] ∧ Along l E z w P ∧ chain l P w z ∧ (∀ y ∈ P, y < 2 * l.length ∧ aR l F y ≠ 0 ∧ aT l y ∈ E.map (·.1)) ∧ (P.map (aT l)).Nodup := by
  induction h with
  | nil => exact ⟨by simp, List.nodup_nil, fun w h => by simp at h⟩
  | @snoc E x h1 h2 h3 h4 h5 h6 ih =>
    obtain ⟨i1, i2, i3⟩ := ih
    refine ⟨?_, ?_, fun w hw => ?_⟩
    · rw [List.map_append, List.mem_append]; simp; exact ⟨by simpa using i1, fun e => h4 e.symm⟩
    · rw [List.map_append, List.nodup_append]
      refine ⟨i2, by simp, fun a ha b hb => ?_⟩
      have : b = aT l x := by simpa using hb
      subst this
      exact fun e => h5 (e ▸ ha)
    · rw [List.map_append, List.mem_append] at hw
      rcases hw with hw | hw
      · obtain ⟨P, p0, p1, p2, p3, p4⟩ := i3 w hw
        refine ⟨P, p0, p1.app, p2, fun y hy => ?_, p4⟩
        obtain ⟨q1, q2, q3⟩ := p3 y hy
        exact ⟨q1, q2, by rw [List.map_append, List.mem_append]; exact .inl q3⟩
      · have hw : w = aT l x := by simpa using hw
        subst hw
        have hl : mFind (E ++ [(aT l x, x)]) (aT l x) = some x := mf_last h5
        have hm : aT l x ∈ (E ++ [(aT l x, x)]).map (·.1) := by simp
        by_cases hz : aF l x = z
        · exact ⟨[x], by simp, ⟨hl, .inl ⟨rfl, hz⟩⟩, ⟨by omega, rfl, hz⟩, fun y hy => by
            obtain rfl : y = x := by simpa using hy
            exact ⟨h2, h3, hm⟩, by simp⟩
        · rcases h6 with h6 | h6
          · exact absurd h6 hz
          obtain ⟨P, p0, p1, p2, p3, p4⟩ := i3 _ h6
          refine ⟨x :: P, by simp, ⟨hl, .inr ⟨p0, hz, p1.app⟩⟩, ⟨by omega, rfl, p2⟩, fun y hy => ?_, ?_⟩
          · rcases List.mem_cons.1 hy with rfl | hy
            · exact ⟨h2, h3, hm⟩
            · obtain ⟨q1, q2, q3⟩ := p3 y hy
              exact ⟨q1, q2, by rw [List.map_append, List.mem_append]; exact .inl q3⟩
          · rw [List.map_cons, List.nodup_cons]
            refine ⟨fun hm => ?_, p4⟩
            obtain ⟨y, hy, e⟩ := List.mem_map.1 hm
            exact h5 (e ▸ (p3 y hy).2.2)
theorem chain_from {l : List Ed} : ∀ {P : List Nat} {v u : Int}, chain l P v u → ∀ y ∈ P, aF l y ∈ P.map (aT l) ∨ aF l y = u
  | x :: P, v, u, ⟨_, _, h⟩, y, hy => by
    rcases List.mem_cons.1 hy with rfl | hy
    · cases P with
      | nil => exact .inr h
      | cons x' P => exact .inl (by simp [h.2.1])
    · rcases chain_from h y hy with h | h
      · exact .inl (by rw [List.map_cons]; exact List.mem_cons_of_mem _ h)
      · exact .inr h
/-- A way through different nodes goes along different edges. -/
theorem edges_of {l : List Ed} : ∀ {P : List Nat} {v u : Int}, chain l P v u → (P.map (aT l)).Nodup → u ∉ P.map (aT l) → (P.map (· / 2)).Nodup
  | [], _, _, _, _, _ => List.nodup_nil
  | x :: P, v, u, h, hn, hu => by
    rw [List.map_cons, List.nodup_cons] at hn
    rw [List.map_cons, List.mem_cons, not_or] at hu
    rw [List.map_cons, List.nodup_cons]
    refine ⟨fun hm => ?_, edges_of h.2.2 hn.2 hu.2⟩
    obtain ⟨y, hy, e⟩ := List.mem_map.1 hm
    by_cases hxy : y = x
    · subst hxy; exact hn.1 (List.mem_map_of_mem hy)
    · have e2 : aT l x = aF l y := by
        rw [aT, aF]
        have e : y / 2 = x / 2 := e
        rw [e]
        by_cases h2 : x % 2 = 0
        · rw [if_pos h2, if_neg (by omega)]
        · rw [if_neg h2, if_pos (by omega)]
      rcases chain_from h.2.2 y hy with h3 | h3
      · exact hn.1 (e2 ▸ h3)
      · exact hu.1 (h3.symm.trans e2.symm)
def Cl (l : List Ed) (F : List Int) (z v : Int) (j : Nat) (s : List (Int × Nat) × List Int) : Prop :=
  ∀ u, (u = z ∨ u ∈ s.1.map (·.1)) → u ∉ s.2 → ∀ x, x < 2 * l.length → aF l x = u → (u ≠ v ∨ x < j) → aR l F x ≠ 0 → aT l x = z ∨ aT l x ∈ s.1.map (·.1)
structure RcI (n : Nat) (l : List Ed) (F : List Int) (z v : Int) (j : Nat) (s : List (Int × Nat) × List Int) : Prop where
  r : Rc l F z s.1
  c : Cl l F z v j s
  q : ∀ u ∈ s.2, u = z ∨ u ∈ s.1.map (·.1)
theorem rcA_ok {n : Nat} {l : List Ed} {F : List Int} {z v : Int} {x : Nat} {s : List (Int × Nat) × List Int} (hx : x < 2 * l.length) (hv : v = z ∨ v ∈ s.1.map (·.1)) (h : RcI n l F z v x s) :
    RcI n l F z v (x + 1) (rcA l F z v x s) ∧ (v = z ∨ v ∈ (rcA l F z v x s).1.map (·.1)) ∧ (rcA l F z v x s).1.length + s.2.length = (rcA l F z v x s).2.length + s.1.length := by
  rw [rcA]
  by_cases hc : aF l x = v ∧ aT l x ≠ z ∧ mFind s.1 (aT l x) = none ∧ aR l F x ≠ 0
  · obtain ⟨c1, c2, c3, c4⟩ := hc
    rw [if_pos ⟨c1, c2, c3, c4⟩, ms_new c3]
    have hk : aT l x ∉ s.1.map (·.1) := mf_none.1 c3
    refine ⟨⟨h.r.snoc hx c4 c2 hk (by rw [c1]; exact hv), fun u hu hq y hy hyu hj hR => ?_, fun u hu => ?_⟩, ?_, ?_⟩
    · show aT l y = z ∨ aT l y ∈ (s.1 ++ [(aT l x, x)]).map (·.1)
      have hu : u = z ∨ u ∈ (s.1 ++ [(aT l x, x)]).map (·.1) := hu
      have hq : u ∉ s.2 ++ [aT l x] := hq
      rw [List.map_append, List.mem_append] at hu ⊢
      rw [List.mem_append, not_or] at hq
      have hne : u ≠ aT l x := by simpa using hq.2
      have hu2 : u = z ∨ u ∈ s.1.map (·.1) := by
        rcases hu with hu | hu | hu
        · exact .inl hu
        · exact .inr hu
        · exact absurd (by simpa using hu) hne
      by_cases hyx : y = x
      · subst hyx; exact .inr (.inr (by simp))
      · rcases h.c u hu2 hq.1 y hy hyu (hj.imp (fun h => h) (fun h => by omega)) hR with h | h
        · exact .inl h
        · exact .inr (.inl h)
    · have hu : u ∈ s.2 ++ [aT l x] := hu
      show u = z ∨ u ∈ (s.1 ++ [(aT l x, x)]).map (·.1)
      rw [List.map_append, List.mem_append]
      rcases List.mem_append.1 hu with hu | hu
      · rcases h.q u hu with h | h
        · exact .inl h
        · exact .inr (.inl h)
      · exact .inr (.inr (by simpa using hu))
    · show v = z ∨ v ∈ (s.1 ++ [(aT l x, x)]).map (·.1)
      rw [List.map_append, List.mem_append]
      rcases hv with h | h
      · exact .inl h
      · exact .inr (.inl h)
    · simp; omega
  · rw [if_neg hc]
    refine ⟨⟨h.r, fun u hu hq y hy hyu hj hR => ?_, h.q⟩, hv, by omega⟩
    by_cases hyx : y = x ∧ u = v
    · obtain ⟨rfl, rfl⟩ := hyx
      by_cases hz : aT l y = z
      · exact .inl hz
      · by_cases hf : mFind s.1 (aT l y) = none
        · exact absurd ⟨hyu, hz, hf, hR⟩ hc
        · exact .inr (by
            by_cases hm : aT l y ∈ s.1.map (·.1)
            · exact hm
            · exact absurd (mf_none.2 hm) hf)
    · exact h.c u hu hq y hy hyu (by
        by_cases hu : u = v
        · exact .inr (by rcases hj with hj | hj; exact absurd hu hj; have : y ≠ x := fun e => hyx ⟨e, hu⟩; omega)
        · exact .inl hu) hR
theorem rcJ_ok {n : Nat} {l : List Ed} {F : List Int} {z v : Int} {s : List (Int × Nat) × List Int} (hv : v = z ∨ v ∈ s.1.map (·.1)) (h : RcI n l F z v 0 s) : ∀ {j : Nat}, j ≤ 2 * l.length →
    RcI n l F z v j (rcJ l F z v j s) ∧ (v = z ∨ v ∈ (rcJ l F z v j s).1.map (·.1)) ∧ (rcJ l F z v j s).1.length + s.2.length = (rcJ l F z v j s).2.length + s.1.length
  | 0, _ => ⟨h, hv, by show s.1.length + s.2.length = s.2.length + s.1.length; omega⟩
  | j + 1, hj => by
    obtain ⟨h1, h2, h3⟩ := rcJ_ok hv h (j := j) (by omega)
    obtain ⟨g1, g2, g3⟩ := rcA_ok (n := n) (show j < 2 * l.length by omega) h2 h1
    exact ⟨g1, g2, by rw [rcJ]; omega⟩
theorem nd_len {n : Nat} {K : List Int} (hnd : K.Nodup) (hr : ∀ w : Int, w ∈ K → 0 ≤ w ∧ w < n) : K.length ≤ n := by
  apply Nat.le_of_not_lt
  intro hlt
  have gm : ∀ i, i ≤ n → K.getD i 0 ∈ K := fun i hi => by
    rw [List.getD_eq_getElem?_getD, List.getElem?_eq_getElem (by omega)]; exact List.getElem_mem _
  obtain ⟨i, j, hij, hj, e⟩ := pigeon n (fun i => (K.getD i 0).toNat) (fun i hi => by
    have := hr _ (gm i hi)
    show (K.getD i 0).toNat < n
    omega)
  have r1 := hr _ (gm i (by omega))
  have r2 := hr _ (gm j hj)
  have e : K.getD i 0 = K.getD j 0 := by
    have e : (K.getD i 0).toNat = (K.getD j 0).toNat := e
    omega
  rw [List.getD_eq_getElem?_getD, List.getD_eq_getElem?_getD, List.getElem?_eq_getElem (show i < K.length by omega), List.getElem?_eq_getElem (show j < K.length by omega)] at e
  exact absurd ((List.getElem_inj hnd).1 e) (by omega)
/-- The keys are nodes, all different, so there are at most n. -/
theorem Rc.len {n : Nat} {l : List Ed} {F : List Int} {z : Int} {E : List (Int × Nat)} (hn : nodes n l) (h : Rc l F z E) : E.length ≤ n ∧ ∀ w : Int, w ∈ E.map (·.1) → 0 ≤ w ∧ w < n := by
  have hr : ∀ w : Int, w ∈ E.map (·.1) → 0 ≤ w ∧ w < n := by
    induction h with
    | nil => intro w h; simp at h
    | @snoc E x h1 h2 h3 h4 h5 h6 ih =>
      intro w hw
      rw [List.map_append, List.mem_append] at hw
      rcases hw with hw | hw
      · exact ih w hw
      · have hw : w = aT l x := by simpa using hw
        have := arc_in hn h2
        omega
  refine ⟨?_, hr⟩
  have := nd_len h.way.2.1 hr
  rw [List.length_map] at this
  exact this
structure RcO (n : Nat) (l : List Ed) (F : List Int) (z : Int) (E : List (Int × Nat)) : Prop where
  r : Rc l F z E
  c : ∀ u, (u = z ∨ u ∈ E.map (·.1)) → ∀ x, x < 2 * l.length → aF l x = u → aR l F x ≠ 0 → aT l x = z ∨ aT l x ∈ E.map (·.1)
/-- One node taken from the queue. -/
theorem rcQ_step {n : Nat} {l : List Ed} {F : List Int} {z v : Int} {E : List (Int × Nat)} {Q : List Int} (h : RcI n l F z (-1) 0 (E, v :: Q)) (hz : 0 ≤ z) (hn : nodes n l) :
    RcI n l F z v 0 (E, Q) ∧ (v = z ∨ v ∈ E.map (·.1)) ∧ RcI n l F z (-1) 0 (rcJ l F z v (2 * l.length) (E, Q)) ∧ (rcJ l F z v (2 * l.length) (E, Q)).1.length + Q.length = (rcJ l F z v (2 * l.length) (E, Q)).2.length + E.length := by
  have hv := h.q v (by simp)
  have h0 : RcI n l F z v 0 (E, Q) := ⟨h.r, fun u hu hq x hx hxu hj hR => h.c u hu (fun hm => by
    rcases List.mem_cons.1 hm with hm | hm
    · rcases hj with hj | hj
      · exact hj hm
      · omega
    · exact hq hm) x hx hxu (.inl (by
      rcases hu with rfl | hu
      · omega
      · have := (h.r.len hn).2 u hu
        omega)) hR, fun u hu => h.q u (by simp [hu])⟩
  obtain ⟨g1, g2, g3⟩ := rcJ_ok (n := n) (s := (E, Q)) hv h0 (j := 2 * l.length) (Nat.le_refl _)
  exact ⟨h0, hv, ⟨g1.r, fun u hu hq x hx hxu _ hR => g1.c u hu hq x hx hxu (.inr hx) hR, g1.q⟩, g3⟩
theorem rcQ_ok {n : Nat} {l : List Ed} {F : List Int} {z : Int} (hz : 0 ≤ z) (hn : nodes n l) : ∀ (q : Nat) (s : List (Int × Nat) × List Int), RcI n l F z (-1) 0 s → n + s.2.length ≤ q + s.1.length → RcO n l F z (rcQ l F z q s)
  | 0, (E, Q), h, hq => by
    have : E.length ≤ n := (h.r.len hn).1
    have hQ : Q = [] := List.length_eq_zero_iff.1 (by have hq : n + Q.length ≤ 0 + E.length := hq; omega)
    subst hQ
    exact ⟨h.r, fun u hu x hx hxu hR => h.c u hu (by simp) x hx hxu (.inl (by
      have := arc_in hn hx
      omega)) hR⟩
  | q + 1, (E, []), h, hq => ⟨h.r, fun u hu x hx hxu hR => h.c u hu (by simp) x hx hxu (.inl (by
      have := arc_in hn hx
      omega)) hR⟩
  | q + 1, (E, v :: Q), h, hq => by
    obtain ⟨_, _, g, e⟩ := rcQ_step h hz hn
    refine rcQ_ok hz hn q _ g ?_
    simp at hq
    omega
theorem rcI_zero {n : Nat} {l : List Ed} {F : List Int} {z : Int} : RcI n l F z (-1) 0 ([], [z]) := ⟨.nil, fun u hu hq x hx hxu _ hR => by
  rcases hu with rfl | hu
  · simp at hq
  · simp at hu, fun u hu => .inl (by simpa using hu)⟩
theorem reach_ok {n : Nat} {l : List Ed} {F : List Int} {z : Int} (hz : 0 ≤ z) (hn : nodes n l) : RcO n l F z (reach n l F z) := rcQ_ok hz hn _ _ rcI_zero (by simp)
end Go.Fl
