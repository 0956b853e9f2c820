/- Flows changed along arcs: balance, cost, bounds. Plain. The cycle behind the last of n + 1 rounds. Plain. -/
import Derived.Test.YtkpidpmlehkjbaaWb
set_option linter.unusedSimpArgs false
set_option linter.unusedVariables false
namespace Go.Fl
def edZ : Ed := ⟨0, 0, 0, 0, 0⟩
theorem inB_iff : ∀ {l : List Ed} {F : List Int}, inB l F ↔ F.length = l.length ∧ ∀ i, i < l.length → (l.getD i edZ).lo ≤ F.getD i 0 ∧ F.getD i 0 ≤ (l.getD i edZ).hi
  | [], [] => ⟨fun _ => ⟨rfl, fun i hi => absurd hi (Nat.not_lt_zero i)⟩, fun _ => trivial⟩
  | [], _ :: _ => ⟨fun h => h.elim, fun h => by simp at h⟩
  | _ :: _, [] => ⟨fun h => h.elim, fun h => by simp at h⟩
  | e :: l, f :: F => by
    rw [inB, inB_iff (l := l)]
    constructor
    · rintro ⟨h1, h2, h3, h4⟩
      refine ⟨by simp [h3], fun i hi => ?_⟩
      rcases i with _ | i
      · exact ⟨h1, h2⟩
      · exact h4 i (by simpa using hi)
    · rintro ⟨h1, h2⟩
      exact ⟨(h2 0 (by simp)).1, (h2 0 (by simp)).2, by simpa using h1, fun i hi => h2 (i + 1) (by simpa using hi)⟩
theorem slack_iff {L : Int → Int} : ∀ {l : List Ed} {F : List Int}, F.length = l.length → (slack L l F ↔ ∀ i, i < l.length → ((l.getD i edZ).c + L (l.getD i edZ).a - L (l.getD i edZ).b < 0 → (l.getD i edZ).hi ≤ F.getD i 0) ∧ (0 < (l.getD i edZ).c + L (l.getD i edZ).a - L (l.getD i edZ).b → F.getD i 0 ≤ (l.getD i edZ).lo))
  | [], [], _ => ⟨fun _ i hi => absurd hi (Nat.not_lt_zero i), fun _ => trivial⟩
  | [], _ :: _, h => by simp at h
  | _ :: _, [], h => by simp at h
  | e :: l, f :: F, h => by
    rw [slack, slack_iff (l := l) (by simpa using h)]
    constructor
    · rintro ⟨h1, h2, h3⟩ i hi
      rcases i with _ | i
      · exact ⟨h1, h2⟩
      · exact h3 i (by simpa using hi)
    · exact fun h => ⟨(h 0 (by simp)).1, (h 0 (by simp)).2, fun i hi => h (i + 1) (by simpa using hi)⟩
theorem bal_set (v y : Int) : ∀ {l : List Ed} {F : List Int} {i : Nat}, F.length = l.length → i < l.length → bal l (F.set i y) v = bal l F v + ((if (l.getD i edZ).b = v then y - F.getD i 0 else 0) - (if (l.getD i edZ).a = v then y - F.getD i 0 else 0))
  | [], _, i, _, hi => absurd hi (Nat.not_lt_zero i)
  | _ :: _, [], _, h, _ => by simp at h
  | e :: l, f :: F, 0, _, _ => by
    show bal (e :: l) (y :: F) v = bal (e :: l) (f :: F) v + ((if e.b = v then y - f else 0) - (if e.a = v then y - f else 0))
    rw [bal, bal]
    split <;> split <;> omega
  | e :: l, f :: F, i + 1, h, hi => by
    show bal (e :: l) (f :: F.set i y) v = bal (e :: l) (f :: F) v + ((if (l.getD i edZ).b = v then y - F.getD i 0 else 0) - (if (l.getD i edZ).a = v then y - F.getD i 0 else 0))
    rw [bal, bal, bal_set v y (by simpa using h) (by simpa using hi)]
    omega
theorem cost_set (y : Int) : ∀ {l : List Ed} {F : List Int} {i : Nat}, F.length = l.length → i < l.length → cost l (F.set i y) = cost l F + (y - F.getD i 0) * (l.getD i edZ).c
  | [], _, i, _, hi => absurd hi (Nat.not_lt_zero i)
  | _ :: _, [], _, h, _ => by simp at h
  | e :: l, f :: F, 0, _, _ => by
    show cost (e :: l) (y :: F) = cost (e :: l) (f :: F) + (y - f) * e.c
    rw [cost, cost, Int.sub_mul]
    omega
  | e :: l, f :: F, i + 1, h, hi => by
    show cost (e :: l) (f :: F.set i y) = cost (e :: l) (f :: F) + (y - F.getD i 0) * (l.getD i edZ).c
    rw [cost, cost, cost_set y (by simpa using h) (by simpa using hi)]
    omega
/-- The arc x: the edge x / 2, forward if x is even. -/
def aF (l : List Ed) (x : Nat) : Int := if x % 2 = 0 then (l.getD (x / 2) edZ).a else (l.getD (x / 2) edZ).b
def aT (l : List Ed) (x : Nat) : Int := if x % 2 = 0 then (l.getD (x / 2) edZ).b else (l.getD (x / 2) edZ).a
def aC (l : List Ed) (x : Nat) : Int := if x % 2 = 0 then (l.getD (x / 2) edZ).c else -(l.getD (x / 2) edZ).c
def aS (x : Nat) : Int := if x % 2 = 0 then 1 else -1
def aR (l : List Ed) (F : List Int) (x : Nat) : Int := if x % 2 = 0 then (l.getD (x / 2) edZ).hi - F.getD (x / 2) 0 else F.getD (x / 2) 0 - (l.getD (x / 2) edZ).lo
/-- The flow changed by d along an arc; along arcs. -/
def pu (d : Int) (F : List Int) (x : Nat) : List Int := F.set (x / 2) (F.getD (x / 2) 0 + aS x * d)
def pus (d : Int) (F : List Int) (P : List Nat) : List Int := P.foldl (pu d) F
theorem pu_len (d : Int) (F : List Int) (x : Nat) : (pu d F x).length = F.length := List.length_set
theorem pus_len (d : Int) : ∀ (P : List Nat) (F : List Int), (pus d F P).length = F.length
  | [], _ => rfl
  | x :: P, F => by rw [pus, List.foldl_cons]; exact (pus_len d P _).trans (pu_len d F x)
theorem bal_pu {l : List Ed} {F : List Int} (hl : F.length = l.length) {x : Nat} (hx : x / 2 < l.length) (d v : Int) : bal l (pu d F x) v = bal l F v + ((if aT l x = v then d else 0) - (if aF l x = v then d else 0)) := by
  rw [pu, bal_set v _ hl hx, aT, aF, aS]
  by_cases h : x % 2 = 0
  · simp only [if_pos h]
    rw [show F.getD (x / 2) 0 + 1 * d - F.getD (x / 2) 0 = d by omega]
  · simp only [if_neg h]
    rw [show F.getD (x / 2) 0 + -1 * d - F.getD (x / 2) 0 = -d by omega]
    split <;> split <;> omega
theorem cost_pu {l : List Ed} {F : List Int} (hl : F.length = l.length) {x : Nat} (hx : x / 2 < l.length) (d : Int) : cost l (pu d F x) = cost l F + d * aC l x := by
  rw [pu, cost_set _ hl hx, aC, aS]
  by_cases h : x % 2 = 0
  · simp only [if_pos h]
    rw [show F.getD (x / 2) 0 + 1 * d - F.getD (x / 2) 0 = d by omega]
  · simp only [if_neg h]
    rw [show F.getD (x / 2) 0 + -1 * d - F.getD (x / 2) 0 = -d by omega, Int.neg_mul, Int.mul_neg]
/-- Arcs that lead on, read back from v: the first one ends at v, .. -/
def chain (l : List Ed) : List Nat → Int → Int → Prop
  | [], v, u => v = u
  | x :: P, v, u => x / 2 < l.length ∧ aT l x = v ∧ chain l P (aF l x) u
def costP (l : List Ed) : List Nat → Int
  | [] => 0
  | x :: P => aC l x + costP l P
theorem bal_pus {l : List Ed} (d w : Int) : ∀ {P : List Nat} {F : List Int} {v u : Int}, F.length = l.length → chain l P v u → bal l (pus d F P) w = bal l F w + ((if v = w then d else 0) - (if u = w then d else 0))
  | [], F, v, u, _, h => by
    have h : v = u := h
    subst h
    show bal l F w = _
    split <;> omega
  | x :: P, F, v, u, hl, h => by
    obtain ⟨h1, h2, h3⟩ := h
    show bal l (pus d (pu d F x) P) w = _
    rw [bal_pus d w ((pu_len d F x).trans hl) h3, bal_pu hl h1, h2]
    split <;> split <;> split <;> omega
theorem cost_pus {l : List Ed} (d : Int) : ∀ {P : List Nat} {F : List Int}, F.length = l.length → (∀ x ∈ P, x / 2 < l.length) → cost l (pus d F P) = cost l F + d * costP l P
  | [], F, _, _ => by show cost l F = cost l F + d * 0; omega
  | x :: P, F, hl, h => by
    show cost l (pus d (pu d F x) P) = _
    rw [cost_pus d ((pu_len d F x).trans hl) (fun y hy => h y (by simp [hy])), cost_pu hl (h x (by simp)), costP, Int.mul_add]
    omega
theorem getD_set {F : List Int} {i j : Nat} {y : Int} : (F.set i y).getD j 0 = if i = j ∧ i < F.length then y else F.getD j 0 := by
  rw [List.getD_eq_getElem?_getD, List.getD_eq_getElem?_getD, List.getElem?_set]
  by_cases h : i = j
  · subst h
    by_cases h2 : i < F.length
    · simp [h2]
    · simp [h2]
  · simp [h]
/-- No edge stands twice in it: the flow of each edge changes by d at most once. -/
theorem pus_get (d : Int) : ∀ {P : List Nat} {F : List Int}, (∀ x ∈ P, x / 2 < F.length) → (P.map (· / 2)).Nodup → ∀ i, ((∀ x ∈ P, x / 2 ≠ i) ∧ (pus d F P).getD i 0 = F.getD i 0) ∨ ∃ x ∈ P, x / 2 = i ∧ (pus d F P).getD i 0 = F.getD i 0 + aS x * d
  | [], F, _, _, i => .inl ⟨fun x hx => by simp at hx, rfl⟩
  | x :: P, F, h, hn, i => by
    obtain ⟨hn1, hn2⟩ := List.nodup_cons.1 hn
    have hx := h x (by simp)
    have hp : pus d F (x :: P) = pus d (pu d F x) P := rfl
    rw [hp]
    rcases pus_get d (P := P) (F := pu d F x) (fun y hy => by rw [pu_len]; exact h y (by simp [hy])) hn2 i with ⟨g1, g2⟩ | ⟨y, g1, g2, g3⟩
    · rw [g2, pu, getD_set]
      by_cases hi : x / 2 = i
      · right
        exact ⟨x, by simp, hi, by rw [if_pos ⟨hi, hx⟩, hi]⟩
      · left
        exact ⟨fun y hy => by rcases List.mem_cons.1 hy with rfl | hy; exact hi; exact g1 y hy, by rw [if_neg (fun e => hi e.1)]⟩
    · right
      have hne : x / 2 ≠ i := fun e => hn1 (List.mem_map.2 ⟨y, g1, show y / 2 = x / 2 by omega⟩)
      exact ⟨y, by simp [g1], g2, by rw [g3, pu, getD_set, if_neg (fun e => hne e.1)]⟩
theorem inB_pus {l : List Ed} {F : List Int} {d : Int} {P : List Nat} (hF : inB l F) (hd : 0 ≤ d) (hP : ∀ x ∈ P, x / 2 < l.length ∧ d ≤ aR l F x) (hn : (P.map (· / 2)).Nodup) : inB l (pus d F P) := by
  obtain ⟨h1, h2⟩ := inB_iff.1 hF
  refine inB_iff.2 ⟨(pus_len d P F).trans h1, fun i hi => ?_⟩
  obtain ⟨b1, b2⟩ := h2 i hi
  rcases pus_get d (P := P) (F := F) (fun x hx => by rw [h1]; exact (hP x hx).1) hn i with ⟨_, g⟩ | ⟨x, hx, hxi, g⟩
  · rw [g]; exact ⟨b1, b2⟩
  · have hr := (hP x hx).2
    rw [g]
    rw [aR, hxi] at hr
    rw [aS]
    by_cases h : x % 2 = 0
    · rw [if_pos h] at hr ⊢; omega
    · rw [if_neg h] at hr ⊢; omega
end Go.Fl

namespace Go.Fl
/-- The relaxations of a network with a flow. -/
def netOf (n : Nat) (l : List Ed) (F : List Int) : Net := ⟨n, 2 * l.length, fun x => (aF l x).toNat, fun x => (aT l x).toNat, aC l, fun x => decide (0 < aR l F x)⟩
theorem getD_mem' {l : List Ed} {i : Nat} (h : i < l.length) : l.getD i edZ ∈ l := by
  rw [List.getD_eq_getElem?_getD, List.getElem?_eq_getElem h]; exact List.getElem_mem h
theorem arc_in {n : Nat} {l : List Ed} (hn : nodes n l) {x : Nat} (h : x < 2 * l.length) : x / 2 < l.length ∧ 0 ≤ aF l x ∧ aF l x < n ∧ 0 ≤ aT l x ∧ aT l x < n := by
  have h2 : x / 2 < l.length := by omega
  have := hn _ (getD_mem' h2)
  rw [aF, aT]
  split <;> omega
theorem netOk {n : Nat} {l : List Ed} (F : List Int) (hn : nodes n l) : (netOf n l F).Ok where
  fr := fun x hx => by have := arc_in hn hx; show (aF l x).toNat < n; omega
  to := fun x hx => by have := arc_in hn hx; show (aT l x).toNat < n; omega
/-- The arcs of k steps back. -/
def bk (N : Net) (s : Bf) : Nat → Nat → List Nat
  | 0, _ => []
  | k + 1, v => (s.par v).toNat :: bk N s k (pr N s v)
theorem bk_len (N : Net) (s : Bf) : ∀ k v, (bk N s k v).length = k
  | 0, _ => rfl
  | k + 1, v => by rw [bk, List.length_cons, bk_len]
theorem bk_get (N : Net) (s : Bf) : ∀ k v i (h : i < (bk N s k v).length), (bk N s k v)[i] = (s.par (it N s i v)).toNat
  | 0, v, i, h => by rw [bk_len] at h; omega
  | k + 1, v, 0, _ => rfl
  | k + 1, v, i + 1, h => bk_get N s k (pr N s v) i (by rw [bk_len] at h ⊢; omega)
theorem bk_mem {N : Net} {s : Bf} {k v x : Nat} (h : x ∈ bk N s k v) : ∃ i, i < k ∧ x = (s.par (it N s i v)).toNat := by
  obtain ⟨i, hi, e⟩ := List.getElem_of_mem h
  rw [bk_get] at e
  exact ⟨i, by rw [bk_len] at hi; exact hi, e.symm⟩
theorem bk_cost {n : Nat} {l : List Ed} {F : List Int} {s : Bf} : ∀ k v, costP l (bk (netOf n l F) s k v) = sm (netOf n l F) s k v
  | 0, _ => rfl
  | k + 1, v => by rw [bk, costP, sm, bk_cost k]; rfl
theorem bk_chain {n : Nat} {l : List Ed} {F : List Int} {s : Bf} (hn : nodes n l) (ha : ∀ v, v < n → 0 ≤ s.par v → (s.par v).toNat < 2 * l.length ∧ (aT l (s.par v).toNat).toNat = v) : ∀ k v, v < n → set? (netOf n l F) s k v → chain l (bk (netOf n l F) s k v) (v : Int) (it (netOf n l F) s k v : Nat)
  | 0, v, _, _ => rfl
  | k + 1, v, hv, hs => by
    obtain ⟨h1, h2⟩ := hs
    obtain ⟨a1, a2⟩ := ha v hv h1
    obtain ⟨b1, b2, b3, b4, b5⟩ := arc_in hn a1
    have e : ((pr (netOf n l F) s v : Nat) : Int) = aF l (s.par v).toNat := by
      show (((aF l (s.par v).toNat).toNat : Nat) : Int) = _
      omega
    refine ⟨b1, by omega, ?_⟩
    have := bk_chain hn ha (F := F) k (pr (netOf n l F) s v) ((netOk F hn).fr _ a1) h2
    rw [e] at this
    exact this
theorem first_of {P : Nat → Prop} : ∀ k, P k → ∃ j, j ≤ k ∧ P j ∧ ∀ i, i < j → ¬ P i := fun k => by
  induction k using Nat.strongRecOn with
  | ind k ih =>
    intro h
    by_cases hx : ∃ i, i < k ∧ P i
    · obtain ⟨i, h1, h2⟩ := hx
      obtain ⟨j, g1, g2, g3⟩ := ih i h1 h2
      exact ⟨j, by omega, g2, g3⟩
    · exact ⟨k, Nat.le_refl _, h, fun i hi hp => hx ⟨i, hi, hp⟩⟩
/-- Until a walk first comes back its nodes are different. -/
theorem diff {N : Net} {s : Bf} {v k : Nat} (hk : it N s k v = v) (hm : ∀ i, 0 < i → i < k → it N s i v ≠ v) : ∀ i j, i < j → j < k → it N s i v ≠ it N s j v := fun i j hi hj he => by
  have e : it N s (i + (k - j)) v = v := by
    rw [it_add, he, ← it_add, show j + (k - j) = k by omega]; exact hk
  exact hm (i + (k - j)) (by omega) (by omega) e
/-- The cycle that the last changed node leads back to: its arcs are open, its edges different, and it costs less than 0. -/
theorem neg_cycle {n : Nat} {l : List Ed} {F : List Int} {s : Bf} {t : Nat → Int} (hn : nodes n l) (h : Inv (netOf n l F) (n : Int) (2 * l.length) s t) (hl : ¬ s.last < 0) :
    ∃ z v k : Nat, s.last = (z : Int) ∧ z < n ∧ (∀ i, it (netOf n l F) s i z < n ∧ 0 ≤ s.par (it (netOf n l F) s i z)) ∧ it (netOf n l F) s n z = v ∧ 0 < k ∧ k ≤ n ∧ it (netOf n l F) s k v = v ∧ (∀ i, 0 < i → i < k → it (netOf n l F) s i v ≠ v) ∧
      chain l (bk (netOf n l F) s k v) (v : Int) (v : Int) ∧ (∀ x ∈ bk (netOf n l F) s k v, x < 2 * l.length ∧ 0 < aR l F x) ∧ ((bk (netOf n l F) s k v).map (· / 2)).Nodup ∧ costP l (bk (netOf n l F) s k v) < 0 := by
  have hN := netOk F hn
  obtain ⟨z, h1, hz, h2, K, hK, hKn, hKe⟩ := cycle hN h hl
  have hz : z < n := hz
  have h2 : ∀ i, it (netOf n l F) s i z < n ∧ 0 ≤ s.par (it (netOf n l F) s i z) := h2
  have hKe : it (netOf n l F) s K (it (netOf n l F) s n z) = it (netOf n l F) s n z := hKe
  have hKn : K ≤ n := hKn
  obtain ⟨k, k1, ⟨k2, k3⟩, k4⟩ := first_of (P := fun k => 0 < k ∧ it (netOf n l F) s k (it (netOf n l F) s n z) = it (netOf n l F) s n z) K ⟨hK, hKe⟩
  have hw : ∀ i, it (netOf n l F) s i (it (netOf n l F) s n z) < n ∧ 0 ≤ s.par (it (netOf n l F) s i (it (netOf n l F) s n z)) := fun i => by rw [← it_add]; exact h2 (n + i)
  generalize hv0 : it (netOf n l F) s n z = v at *
  have hv : v < n := (hw 0).1
  have ha : ∀ v, v < n → 0 ≤ s.par v → (s.par v).toNat < 2 * l.length ∧ (aT l (s.par v).toNat).toNat = v := fun w hw h0 => by
    obtain ⟨a1, _, a3, _⟩ := h.a w hw h0
    exact ⟨a1, a3⟩
  have hs : set? (netOf n l F) s k v := (set_iff _ _ k v).2 fun i _ => (hw i).2
  have hc := h.b v k hv k2 hs k3
  have hd := diff k3 (fun i h0 hi he => k4 i hi ⟨h0, he⟩)
  have hch := bk_chain hn ha (F := F) k v hv hs
  rw [k3] at hch
  refine ⟨z, v, k, h1, hz, h2, hv0, k2, by omega, k3, fun i h0 hi he => k4 i hi ⟨h0, he⟩, hch, ?_, ?_, by rw [bk_cost]; exact hc⟩
  · intro x hx
    obtain ⟨i, hi, rfl⟩ := bk_mem hx
    obtain ⟨g1, g2⟩ := hw i
    obtain ⟨a1, a2, _⟩ := h.a _ g1 g2
    exact ⟨a1, of_decide_eq_true a2⟩
  · refine List.pairwise_iff_getElem.2 fun i j hi hj hij he => ?_
    rw [List.length_map, bk_len] at hi hj
    rw [List.getElem_map, List.getElem_map, bk_get, bk_get] at he
    obtain ⟨gi1, gi2⟩ := hw i
    obtain ⟨gj1, gj2⟩ := hw j
    obtain ⟨ai1, ai3⟩ := ha _ gi1 gi2
    obtain ⟨aj1, aj3⟩ := ha _ gj1 gj2
    have pi := it_succ (netOf n l F) s i v
    have pj := it_succ (netOf n l F) s j v
    have pi : it (netOf n l F) s (i + 1) v = (aF l (s.par (it (netOf n l F) s i v)).toNat).toNat := pi
    have pj : it (netOf n l F) s (j + 1) v = (aF l (s.par (it (netOf n l F) s j v)).toNat).toNat := pj
    have hdij := hd i j hij hj
    generalize hx : (s.par (it (netOf n l F) s i v)).toNat = x at *
    generalize hy : (s.par (it (netOf n l F) s j v)).toNat = y at *
    by_cases hp : x % 2 = y % 2
    · have : x = y := by omega
      subst this
      exact hdij (ai3.symm.trans aj3)
    · have e1 : aT l x = aF l y ∧ aF l x = aT l y := by
        rw [aT, aF, aT, aF, he]
        rcases Nat.mod_two_eq_zero_or_one x with q | q <;> rcases Nat.mod_two_eq_zero_or_one y with r | r <;> simp [q, r] at hp ⊢
      rw [e1.2, aj3] at pi
      rw [← e1.1, ai3] at pj
      have hj1 : j = i + 1 := by
        by_cases q : i + 1 < j
        · exact absurd pi (hd (i + 1) j q hj)
        · omega
      subst hj1
      have hk2 : i = 0 ∧ k = 2 := by
        by_cases q : i + 1 + 1 < k
        · exact absurd pj.symm (hd i (i + 1 + 1) (by omega) q)
        · have : i + 1 + 1 = k := by omega
          rw [this, k3] at pj
          by_cases q0 : i = 0
          · omega
          · exact absurd pj (hd 0 i (by omega) (by omega))
      obtain ⟨rfl, rfl⟩ := hk2
      have hx : (s.par v).toNat = x := hx
      have hy : (s.par (pr (netOf n l F) s v)).toNat = y := hy
      rw [sm, sm, sm, hx, hy] at hc
      have hc : aC l x + (aC l y + 0) < 0 := hc
      rw [aC, aC, he] at hc
      rcases Nat.mod_two_eq_zero_or_one x with q | q <;> rcases Nat.mod_two_eq_zero_or_one y with r | r <;> simp [q, r] at hp hc <;> omega
end Go.Fl
