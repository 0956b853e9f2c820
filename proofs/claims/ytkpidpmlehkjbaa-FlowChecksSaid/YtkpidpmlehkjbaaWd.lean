/- The cycle behind the last of n + 1 rounds. Plain. -/
import Derived.Test.YtkpidpmlehkjbaaWc
set_option linter.unusedSimpArgs false
set_option linter.unusedVariables false
namespace Go.Fl
/-- The relaxations of a network with a flow. -/
def netOf (n : Nat) (l : List Ed) (F : List Int) : Net := ⟨n, 2 * l.length, fun x => (aF l x).toNat, fun x => (aT l x).toNat, aC l, fun x => decide (0 < aR l F x)⟩
theorem getD_mem' {l : List Ed} {i : Nat} (h : i < l.length) : l.getD i edZ ∈ l := by
  rw [List.getD_eq_getElem?_getD, List.getElem?_eq_getElem h]; exact List.getElem_mem h
theorem arc_in {n : Nat} {l : List Ed} (hn : nodes n l) {x : Nat} (h : x < 2 * l.length) : x / 2 < l.length ∧ 0 ≤ aF l x ∧ aF l x < n ∧ 0 ≤ aT l x ∧ aT l x < n := by
  have h2 : x / 2 < l.length := by omega
  have := hn _ (getD_mem' h2)
  rw [aF, aT]
  split <;> omega
theorem netOk {n : Nat} {l : List Ed} (F : List Int) (hn : nodes n l) : (netOf n l F).Ok where
  fr := fun x hx => by have := arc_in hn hx; show (aF l x).toNat < n; omega
  to := fun x hx => by have := arc_in hn hx; show (aT l x).toNat < n; omega
/-- The arcs of k steps back. -/
def bk (N : Net) (s : Bf) : Nat → Nat → List Nat
  | 0, _ => []
  | k + 1, v => (s.par v).toNat :: bk N s k (pr N s v)
theorem bk_len (N : Net) (s : Bf) : ∀ k v, (bk N s k v).length = k
  | 0, _ => rfl
  | k + 1, v => by rw [bk, List.length_cons, bk_len]
theorem bk_get (N : Net) (s : Bf) : ∀ k v i (h : i < (bk N s k v).length), (bk N s k v)[i] = (s.par (it N s i v)).toNat
  | 0, v, i, h => by rw [bk_len] at h; omega
  | k + 1, v, 0, _ => rfl
  | k + 1, v, i + 1, h => bk_get N s k (pr N s v) i (by rw [bk_len] at h ⊢; omega)
theorem bk_mem {N : Net} {s : Bf} {k v x : Nat} (h : x ∈ bk N s k v) : ∃ i, i < k ∧ x = (s.par (it N s i v)).toNat := by
  obtain ⟨i, hi, e⟩ := List.getElem_of_mem h
  rw [bk_get] at e
  exact ⟨i, by rw [bk_len] at hi; exact hi, e.symm⟩
theorem bk_cost {n : Nat} {l : List Ed} {F : List Int} {s : Bf} : ∀ k v, costP l (bk (netOf n l F) s k v) = sm (netOf n l F) s k v
  | 0, _ => rfl
  | k + 1, v => by rw [bk, costP, sm, bk_cost k]; rfl
theorem bk_chain {n : Nat} {l : List Ed} {F : List Int} {s : Bf} (hn : nodes n l) (ha : ∀ v, v < n → 0 ≤ s.par v → (s.par v).toNat < 2 * l.length ∧ (aT l (s.par v).toNat).toNat = v) : ∀ k v, v < n → set? (netOf n l F) s k v → chain l (bk (netOf n l F) s k v) (v : Int) (it (netOf n l F) s k v : Nat)
  | 0, v, _, _ => rfl
  | k + 1, v, hv, hs => by
    obtain ⟨h1, h2⟩ := hs
    obtain ⟨a1, a2⟩ := ha v hv h1
    obtain ⟨b1, b2, b3, b4, b5⟩ := arc_in hn a1
    have e : ((pr (netOf n l F) s v : Nat) : Int) = aF l (s.par v).toNat := by
      show (((aF l (s.par v).toNat).toNat : Nat) : Int) = _
      omega
    refine ⟨b1, by omega, ?_⟩
    have := bk_chain hn ha (F := F) k (pr (netOf n l F) s v) ((netOk F hn).fr _ a1) h2
    rw [e] at this
    exact this
theorem first_of {P : Nat → Prop} : ∀ k, P k → ∃ j, j ≤ k ∧ P j ∧ ∀ i, i < j → ¬ P i := fun k => by
  induction k using Nat.strongRecOn with
  | ind k ih =>
    intro h
    by_cases hx : ∃ i, i < k ∧ P i
    · obtain ⟨i, h1, h2⟩ := hx
      obtain ⟨j, g1, g2, g3⟩ := ih i h1 h2
      exact ⟨j, by omega, g2, g3⟩
    · exact ⟨k, Nat.le_refl _, h, fun i hi hp => hx ⟨i, hi, hp⟩⟩
/-- Until a walk first comes back its nodes are different. -/
theorem diff {N : Net} {s : Bf} {v k : Nat} (hk : it N s k v = v) (hm : ∀ i, 0 < i → i < k → it N s i v ≠ v) : ∀ i j, i < j → j < k → it N s i v ≠ it N s j v := fun i j hi hj he => by
  have e : it N s (i + (k - j)) v = v := by
    rw [it_add, he, ← it_add, show j + (k - j) = k by omega]; exact hk
  exact hm (i + (k - j)) (by omega) (by omega) e
/-- The cycle that the last changed node leads back to: its arcs are open, its edges different, and it costs less than 0. -/
theorem neg_cycle {n : Nat} {l : List Ed} {F : List Int} {s : Bf} {t : Nat → Int} (hn : nodes n l) (h : Inv (netOf n l F) (n : Int) (2 * l.length) s t) (hl : ¬ s.last < 0) :
    ∃ z v k : Nat, s.last = (z : Int) ∧ z < n ∧ (∀ i, it (netOf n l F) s i z < n ∧ 0 ≤ s.par (it (netOf n l F) s i z)) ∧ it (netOf n l F) s n z = v ∧ 0 < k ∧ k ≤ n ∧ it (netOf n l F) s k v = v ∧ (∀ i, 0 < i → i < k → it (netOf n l F) s i v ≠ v) ∧
      chain l (bk (netOf n l F) s k v) (v : Int) (v : Int) ∧ (∀ x ∈ bk (netOf n l F) s k v, x < 2 * l.length ∧ 0 < aR l F x) ∧ ((bk (netOf n l F) s k v).map (· / 2)).Nodup ∧ costP l (bk (netOf n l F) s k v) < 0 := by
  have hN := netOk F hn
  obtain ⟨z, h1, hz, h2, K, hK, hKn, hKe⟩ := cycle hN h hl
  have hz : z < n := hz
  have h2 : ∀ i, it (netOf n l F) s i z < n ∧ 0 ≤ s.par (it (netOf n l F) s i z) := h2
  have hKe : it (netOf n l F) s K (it (netOf n l F) s n z) = it (netOf n l F) s n z := hKe
  have hKn : K ≤ n := hKn
  obtain ⟨k, k1, ⟨k2, k3⟩, k4⟩ := first_of (P := fun k => 0 < k ∧ it (netOf n l F) s k (it (netOf n l F) s n z) = it (netOf n l F) s n z) K ⟨hK, hKe⟩
  have hw : ∀ i, it (netOf n l F) s i (it (netOf n l F) s n z) < n ∧ 0 ≤ s.par (it (netOf n l F) s i (it (netOf n l F) s n z)) := fun i => by rw [← it_add]; exact h2 (n + i)
  generalize hv0 : it (netOf n l F) s n z = v at *
  have hv : v < n := (hw 0).1
  have ha : ∀ v, v < n → 0 ≤ s.par v → (s.par v).toNat < 2 * l.length ∧ (aT l (s.par v).toNat).toNat = v := fun w hw h0 => by
    obtain ⟨a1, _, a3, _⟩ := h.a w hw h0
    exact ⟨a1, a3⟩
  have hs : set? (netOf n l F) s k v := (set_iff _ _ k v).2 fun i _ => (hw i).2
  have hc := h.b v k hv k2 hs k3
  have hd := diff k3 (fun i h0 hi he => k4 i hi ⟨h0, he⟩)
  have hch := bk_chain hn ha (F := F) k v hv hs
  rw [k3] at hch
  refine ⟨z, v, k, h1, hz, h2, hv0, k2, by omega, k3, fun i h0 hi he => k4 i hi ⟨h0, he⟩, hch, ?_, ?_, by rw [bk_cost]; exact hc⟩
  · intro x hx
    obtain ⟨i, hi, rfl⟩ := bk_mem hx
    obtain ⟨g1, g2⟩ := hw i
    obtain ⟨a1, a2, _⟩ := h.a _ g1 g2
    exact ⟨a1, of_decide_eq_true a2⟩
  · refine List.pairwise_iff_getElem.2 fun i j hi hj hij he => ?_
    rw [List.length_map, bk_len] at hi hj
    rw [List.getElem_map, List.getElem_map, bk_get, bk_get] at he
    obtain ⟨gi1, gi2⟩ := hw i
    obtain ⟨gj1, gj2⟩ := hw j
    obtain ⟨ai1, ai3⟩ := ha _ gi1 gi2
    obtain ⟨aj1, aj3⟩ := ha _ gj1 gj2
    have pi := it_succ (netOf n l F) s i v
    have pj := it_succ (netOf n l F) s j v
    have pi : it (netOf n l F) s (i + 1) v = (aF l (s.par (it (netOf n l F) s i v)).toNat).toNat := pi
    have pj : it (netOf n l F) s (j + 1) v = (aF l (s.par (it (netOf n l F) s j v)).toNat).toNat := pj
    have hdij := hd i j hij hj
    generalize hx : (s.par (it (netOf n l F) s i v)).toNat = x at *
    generalize hy : (s.par (it (netOf n l F) s j v)).toNat = y at *
    by_cases hp : x % 2 = y % 2
    · have : x = y := by omega
      subst this
      exact hdij (ai3.symm.trans aj3)
    · have e1 : aT l x = aF l y ∧ aF l x = aT l y := by
        rw [aT, aF, aT, aF, he]
        rcases Nat.mod_two_eq_zero_or_one x with q | q <;> rcases Nat.mod_two_eq_zero_or_one y with r | r <;> simp [q, r] at hp ⊢
      rw [e1.2, aj3] at pi
      rw [← e1.1, ai3] at pj
      have hj1 : j = i + 1 := by
        by_cases q : i + 1 < j
        · exact absurd pi (hd (i + 1) j q hj)
        · omega
      subst hj1
      have hk2 : i = 0 ∧ k = 2 := by
        by_cases q : i + 1 + 1 < k
        · exact absurd pj.symm (hd i (i + 1 + 1) (by omega) q)
        · have : i + 1 + 1 = k := by omega
          rw [this, k3] at pj
          by_cases q0 : i = 0
          · omega
          · exact absurd pj (hd 0 i (by omega) (by omega))
      obtain ⟨rfl, rfl⟩ := hk2
      have hx : (s.par v).toNat = x := hx
      have hy : (s.par (pr (netOf n l F) s v)).toNat = y := hy
      rw [sm, sm, sm, hx, hy] at hc
      have hc : aC l x + (aC l y + 0) < 0 := hc
      rw [aC, aC, he] at hc
      rcases Nat.mod_two_eq_zero_or_one x with q | q <;> rcases Nat.mod_two_eq_zero_or_one y with r | r <;> simp [q, r] at hp hc <;> omega
end Go.Fl
