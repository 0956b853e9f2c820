/- Relaxations: what their rounds leave, and the cycle when the last one still changes a node. Plain. -/
import Derived.Test.YtkpidpmlehkjbaaWa
set_option linter.unusedSimpArgs false
set_option linter.unusedVariables false
namespace Go.Fl
/-- What relaxations go over: m arcs over n nodes; from, to, cost, open. -/
structure Net where
  (n m : Nat) (fr to : Nat → Nat) (co : Nat → Int) (op : Nat → Bool)
structure Net.Ok (N : Net) : Prop where
  fr : ∀ x, x < N.m → N.fr x < N.n
  to : ∀ x, x < N.m → N.to x < N.n
structure Bf where
  (lev par : Nat → Int) (last : Int)
def Bf.zero : Bf := ⟨fun _ => 0, fun _ => -1, -1⟩
def rl (N : Net) (x : Nat) (s : Bf) : Bf :=
  if N.op x = true ∧ s.lev (N.fr x) + N.co x < s.lev (N.to x) then
    ⟨fun v => if v = N.to x then s.lev (N.fr x) + N.co x else s.lev v, fun v => if v = N.to x then (x : Int) else s.par v, (N.to x : Int)⟩
  else s
def rls (N : Net) (s : Bf) : Nat → Bf
  | 0 => s
  | j + 1 => rl N j (rls N s j)
/-- A round. -/
def rnd (N : Net) (s : Bf) : Bf := rls N ⟨s.lev, s.par, -1⟩ N.m
/-- The node before a node. -/
def pr (N : Net) (s : Bf) (v : Nat) : Nat := N.fr (s.par v).toNat
def it (N : Net) (s : Bf) : Nat → Nat → Nat
  | 0, v => v
  | k + 1, v => it N s k (pr N s v)
def sm (N : Net) (s : Bf) : Nat → Nat → Int
  | 0, _ => 0
  | k + 1, v => N.co (s.par v).toNat + sm N s k (pr N s v)
def set? (N : Net) (s : Bf) : Nat → Nat → Prop
  | 0, _ => True
  | k + 1, v => 0 ≤ s.par v ∧ set? N s k (pr N s v)
structure Inv (N : Net) (r : Int) (j : Nat) (s : Bf) (t : Nat → Int) : Prop where
  a : ∀ v, v < N.n → 0 ≤ s.par v → (s.par v).toNat < N.m ∧ N.op (s.par v).toNat = true ∧ N.to (s.par v).toNat = v ∧ N.co (s.par v).toNat ≤ s.lev v - s.lev (pr N s v)
  b : ∀ v k, v < N.n → 0 < k → set? N s k v → it N s k v = v → sm N s k v < 0
  c : ∀ v, v < N.n → 0 ≤ t v → 0 ≤ s.par v ∧ t v - 1 ≤ t (pr N s v)
  d : ∀ y, y < N.m → N.op y = true → (t (N.fr y) < r - 1 ∨ y < j ∧ t (N.fr y) < r) → s.lev (N.to y) ≤ s.lev (N.fr y) + N.co y
  e : ∀ v, v < N.n → t v ≤ r ∧ -1 ≤ t v
  l : (s.last = -1 ∧ ∀ v, v < N.n → t v < r) ∨ ∃ v, v < N.n ∧ s.last = v ∧ t v = r
/-- A walk back: the costs are at most the difference of the levels; less, if it meets a step that is strict. -/
theorem tele {N : Net} (hN : N.Ok) {s : Bf} {z : Nat} (ha : ∀ v, v < N.n → 0 ≤ s.par v → (s.par v).toNat < N.m ∧ N.co (s.par v).toNat ≤ s.lev v - s.lev (pr N s v) ∧ (pr N s v = z → N.co (s.par v).toNat < s.lev v - s.lev (pr N s v))) :
    ∀ k v, v < N.n → set? N s k v → sm N s k v ≤ s.lev v - s.lev (it N s k v) ∧ ((∃ i, i < k ∧ it N s (i + 1) v = z) → sm N s k v < s.lev v - s.lev (it N s k v))
  | 0, v, hv, _ => ⟨by simp [sm, it], fun ⟨i, hi, _⟩ => by omega⟩
  | k + 1, v, hv, hs => by
    obtain ⟨h1, h2⟩ := hs
    obtain ⟨b1, b2, b3⟩ := ha v hv h1
    obtain ⟨c1, c2⟩ := tele hN ha k (pr N s v) (hN.fr _ b1) h2
    rw [sm, it]
    refine ⟨by omega, fun ⟨i, hi, he⟩ => ?_⟩
    rcases i with _ | i
    · have := b3 he
      omega
    · have := c2 ⟨i, by omega, he⟩
      omega
/-- A walk that does not meet a node is as it was before this node changed. -/
theorem same_walk {N : Net} {s s' : Bf} {z : Nat} (hp : ∀ v, v ≠ z → s'.par v = s.par v) : ∀ k v, (∀ i, i < k → it N s' i v ≠ z) → (set? N s' k v → set? N s k v) ∧ it N s' k v = it N s k v ∧ sm N s' k v = sm N s k v
  | 0, v, _ => ⟨fun h => h, rfl, rfl⟩
  | k + 1, v, h => by
    have h0 : s'.par v = s.par v := hp v (h 0 (by omega))
    have h1 : pr N s' v = pr N s v := by rw [pr, pr, h0]
    obtain ⟨e1, e2, e3⟩ := same_walk hp k (pr N s' v) (fun i hi => h (i + 1) (by omega))
    rw [h1] at e1 e2 e3
    refine ⟨fun ⟨g1, g2⟩ => ⟨by rw [← h0]; exact g1, e1 (by rw [← h1]; exact g2)⟩, ?_, ?_⟩
    · rw [it, it, h1]; exact e2
    · rw [sm, sm, h1, h0, e3]
theorem it_succ (N : Net) (s : Bf) : ∀ k v, it N s (k + 1) v = pr N s (it N s k v)
  | 0, _ => rfl
  | k + 1, v => by rw [it, it_succ N s k, it]
theorem inv_rl {N : Net} (hN : N.Ok) {r : Int} {j : Nat} (hj : j < N.m) {s : Bf} {t : Nat → Int} (h : Inv N r j s t) (hr : 0 ≤ r) : ∃ t', Inv N r (j + 1) (rl N j s) t' := by
  by_cases hc : N.op j = true ∧ s.lev (N.fr j) + N.co j < s.lev (N.to j)
  · obtain ⟨hop, hlt⟩ := hc
    have hz := hN.to j hj
    have hu := hN.fr j hj
    have htu : r - 1 ≤ t (N.fr j) := by
      apply Int.not_lt.1; intro hx
      have := h.d j hj hop (.inl hx)
      omega
    have e : rl N j s = ⟨fun v => if v = N.to j then s.lev (N.fr j) + N.co j else s.lev v, fun v => if v = N.to j then (j : Int) else s.par v, (N.to j : Int)⟩ := if_pos ⟨hop, hlt⟩
    rw [e]
    generalize hs' : Bf.mk (fun v => if v = N.to j then s.lev (N.fr j) + N.co j else s.lev v) (fun v => if v = N.to j then (j : Int) else s.par v) (N.to j : Int) = s'
    have lz : s'.lev (N.to j) = s.lev (N.fr j) + N.co j := by rw [← hs']; exact if_pos rfl
    have ln : ∀ v, v ≠ N.to j → s'.lev v = s.lev v := fun v hv => by rw [← hs']; exact if_neg hv
    have ll : ∀ v, s'.lev v ≤ s.lev v := fun v => by
      by_cases hv : v = N.to j
      · rw [hv, lz]; omega
      · rw [ln v hv]; exact Int.le_refl _
    have pz : s'.par (N.to j) = (j : Int) := by rw [← hs']; exact if_pos rfl
    have pn : ∀ v, v ≠ N.to j → s'.par v = s.par v := fun v hv => by rw [← hs']; exact if_neg hv
    have prz : pr N s' (N.to j) = N.fr j := by rw [pr, pz]; rfl
    have prn : ∀ v, v ≠ N.to j → pr N s' v = pr N s v := fun v hv => by rw [pr, pr, pn v hv]
    have hla : s'.last = (N.to j : Int) := by rw [← hs']
    clear hs'
    have ha : ∀ v, v < N.n → 0 ≤ s'.par v → (s'.par v).toNat < N.m ∧ N.op (s'.par v).toNat = true ∧ N.to (s'.par v).toNat = v ∧ N.co (s'.par v).toNat ≤ s'.lev v - s'.lev (pr N s' v) ∧ (pr N s' v = N.to j → N.co (s'.par v).toNat < s'.lev v - s'.lev (pr N s' v)) := fun v hv h0 => by
      by_cases hvz : v = N.to j
      · subst hvz
        rw [pz] at h0 ⊢
        rw [prz, lz]
        refine ⟨hj, hop, rfl, ?_, fun hf => ?_⟩
        · have := ll (N.fr j)
          show N.co j ≤ _
          omega
        · show N.co j < _
          rw [hf, lz]
          omega
      · rw [pn v hvz] at h0 ⊢
        obtain ⟨a1, a2, a3, a4⟩ := h.a v hv h0
        rw [prn v hvz, ln v hvz]
        refine ⟨a1, a2, a3, ?_, fun hf => ?_⟩
        · have := ll (pr N s v)
          omega
        · rw [hf] at a4 ⊢
          rw [lz]
          omega
    refine ⟨fun v => if v = N.to j then r else t v, ?_, ?_, ?_, ?_, ?_, ?_⟩
    · intro v hv h0
      obtain ⟨a1, a2, a3, a4, _⟩ := ha v hv h0
      exact ⟨a1, a2, a3, a4⟩
    · intro v k hv hk hs hi
      by_cases hm : ∃ i, i < k ∧ it N s' i v = N.to j
      · have := (tele hN (z := N.to j) (fun w hw h0 => by obtain ⟨a1, _, _, a4, a5⟩ := ha w hw h0; exact ⟨a1, a4, a5⟩) k v hv hs).2 (by
          obtain ⟨i, hi1, hi2⟩ := hm
          rcases i with _ | i
          · exact ⟨k - 1, by omega, by rw [show k - 1 + 1 = k by omega, hi]; exact hi2⟩
          · exact ⟨i, by omega, hi2⟩)
        rw [hi] at this
        omega
      · obtain ⟨g1, g2, g3⟩ := same_walk (s := s) (s' := s') (z := N.to j) pn k v (fun i hi hx => hm ⟨i, hi, hx⟩)
        rw [g3]
        exact h.b v k hv hk (g1 hs) (by rw [← g2]; exact hi)
    · intro v hv h0
      by_cases hvz : v = N.to j
      · subst hvz
        rw [if_pos rfl, prz, pz]
        refine ⟨by omega, ?_⟩
        split <;> omega
      · rw [if_neg hvz] at h0 ⊢
        rw [pn v hvz, prn v hvz]
        obtain ⟨c1, c2⟩ := h.c v hv h0
        refine ⟨c1, ?_⟩
        have := (h.e v hv).1
        split <;> omega
    · intro y hy hoy ht
      by_cases hf : N.fr y = N.to j
      · rw [if_pos hf] at ht; omega
      · rw [if_neg hf] at ht
        rw [ln _ hf]
        rcases ht with ht | ⟨hy1, ht⟩
        · have := h.d y hy hoy (.inl ht)
          have := ll (N.to y)
          omega
        · by_cases hyj : y = j
          · rw [hyj, lz]; exact Int.le_refl _
          · have := h.d y hy hoy (.inr ⟨by omega, ht⟩)
            have := ll (N.to y)
            omega
    · intro v hv
      have := h.e v hv
      split <;> omega
    · exact .inr ⟨N.to j, hz, hla, if_pos rfl⟩
  · have e : rl N j s = s := if_neg hc
    rw [e]
    refine ⟨t, h.a, h.b, h.c, fun y hy hoy ht => ?_, h.e, h.l⟩
    rcases ht with ht | ⟨hy1, ht⟩
    · exact h.d y hy hoy (.inl ht)
    · by_cases hyj : y = j
      · subst hyj
        apply Int.not_lt.1
        exact fun hx => hc ⟨hoy, hx⟩
      · exact h.d y hy hoy (.inr ⟨by omega, ht⟩)
theorem inv_rls {N : Net} (hN : N.Ok) {r : Int} (hr : 0 ≤ r) {s : Bf} : ∀ {j : Nat} {t : Nat → Int}, j ≤ N.m → Inv N r 0 s t → ∃ t', Inv N r j (rls N s j) t'
  | 0, t, _, h => ⟨t, h⟩
  | j + 1, _, hj, h => by
    obtain ⟨t1, h1⟩ := inv_rls hN hr (j := j) (by omega) h
    exact inv_rl hN (by omega) h1 hr
/-- Rounds 0 .. k - 1. -/
def rnds (N : Net) : Nat → Bf
  | 0 => Bf.zero
  | k + 1 => rnd N (rnds N k)
theorem inv_zero (N : Net) : Inv N 0 0 Bf.zero (fun _ => -1) where
  a := fun v _ h => by have h : (0 : Int) ≤ -1 := h; omega
  b := fun v k _ hk hs _ => by
    rcases k with _ | k
    · omega
    · have h : (0 : Int) ≤ -1 := hs.1
      omega
  c := fun v _ h => by omega
  d := fun y _ _ h => by omega
  e := fun v _ => by omega
  l := .inl ⟨rfl, fun v _ => by omega⟩
/-- What holds behind round r begins round r + 1. -/
theorem inv_next {N : Net} (hN : N.Ok) {r : Int} {s : Bf} {t : Nat → Int} (h : Inv N r N.m s t) : Inv N (r + 1) 0 ⟨s.lev, s.par, -1⟩ t where
  a := h.a
  b := fun v k hv hk hs hi => by
    have g : ∀ k v, set? N ⟨s.lev, s.par, -1⟩ k v = set? N s k v ∧ it N ⟨s.lev, s.par, -1⟩ k v = it N s k v ∧ sm N ⟨s.lev, s.par, -1⟩ k v = sm N s k v := fun k => by
      induction k with
      | zero => intro v; exact ⟨rfl, rfl, rfl⟩
      | succ k ih =>
        intro v
        obtain ⟨e1, e2, e3⟩ := ih (pr N s v)
        refine ⟨?_, ?_, ?_⟩
        · rw [set?, set?]; rw [← e1]; rfl
        · rw [it, it]; rw [← e2]; rfl
        · rw [sm, sm]; rw [← e3]; rfl
    obtain ⟨g1, g2, g3⟩ := g k v
    rw [g3]
    exact h.b v k hv hk (by rw [← g1]; exact hs) (by rw [← g2]; exact hi)
  c := h.c
  d := fun y hy ho ht => h.d y hy ho (.inr ⟨hy, by omega⟩)
  e := fun v hv => by have := h.e v hv; omega
  l := .inl ⟨rfl, fun v hv => by have := h.e v hv; omega⟩
theorem inv_rnds {N : Net} (hN : N.Ok) : ∀ k : Nat, ∃ t, Inv N (k : Int) N.m (rnds N (k + 1)) t
  | 0 => inv_rls hN (by omega) (Nat.le_refl _) (inv_zero N)
  | k + 1 => by
    obtain ⟨t, h⟩ := inv_rnds hN k
    exact inv_rls hN (by omega) (Nat.le_refl _) (inv_next hN h)
/-- A round that changes nothing: the levels hold for each open arc. -/
theorem still {N : Net} {r : Int} {s : Bf} {t : Nat → Int} (hN : N.Ok) (h : Inv N r N.m s t) (hl : s.last < 0) : ∀ y, y < N.m → N.op y = true → s.lev (N.to y) ≤ s.lev (N.fr y) + N.co y := fun y hy ho => by
  rcases h.l with ⟨_, h1⟩ | ⟨v, _, h1, _⟩
  · exact h.d y hy ho (.inr ⟨hy, h1 _ (hN.fr y hy)⟩)
  · omega
theorem pigeon : ∀ (n : Nat) (f : Nat → Nat), (∀ i, i ≤ n → f i < n) → ∃ i j, i < j ∧ j ≤ n ∧ f i = f j
  | 0, f, h => by have := h 0 (Nat.le_refl _); omega
  | n + 1, f, h => by
    by_cases hx : ∃ i, i ≤ n ∧ f i = f (n + 1)
    · obtain ⟨i, h1, h2⟩ := hx
      exact ⟨i, n + 1, by omega, Nat.le_refl _, h2⟩
    · obtain ⟨i, j, h1, h2, h3⟩ := pigeon n (fun i => if f i = n then f (n + 1) else f i) (fun i hi => by
        have a := h i (by omega)
        have b := h (n + 1) (Nat.le_refl _)
        have c : f i ≠ f (n + 1) := fun e => hx ⟨i, hi, e⟩
        show (if f i = n then f (n + 1) else f i) < n
        split
        · rename_i e
          rw [e] at c
          omega
        · rename_i e
          omega)
      refine ⟨i, j, h1, by omega, ?_⟩
      have h3 : (if f i = n then f (n + 1) else f i) = (if f j = n then f (n + 1) else f j) := h3
      have c1 : f i ≠ f (n + 1) := fun e => hx ⟨i, by omega, e⟩
      have c2 : f j ≠ f (n + 1) := fun e => hx ⟨j, by omega, e⟩
      split at h3 <;> split at h3
      · rename_i a b; rw [a, b]
      · exact absurd h3.symm c2
      · exact absurd h3 c1
      · exact h3
theorem it_add (N : Net) (s : Bf) (b : Nat) : ∀ a v, it N s (a + b) v = it N s b (it N s a v)
  | 0, v => by rw [Nat.zero_add]; rfl
  | a + 1, v => by rw [show a + 1 + b = (a + b) + 1 by omega, it, it_add N s b a, it]
theorem set_iff (N : Net) (s : Bf) : ∀ k v, set? N s k v ↔ ∀ i, i < k → 0 ≤ s.par (it N s i v)
  | 0, v => ⟨fun _ i hi => by omega, fun _ => trivial⟩
  | k + 1, v => by
    rw [set?, set_iff N s k]
    constructor
    · rintro ⟨h1, h2⟩ i hi
      rcases i with _ | i
      · exact h1
      · exact h2 i (by omega)
    · exact fun h => ⟨h 0 (by omega), fun i hi => h (i + 1) (by omega)⟩
/-- The last of n + 1 rounds changed a node: n steps back from it there is a cycle, and each cycle costs less than 0. -/
theorem cycle {N : Net} (hN : N.Ok) {s : Bf} {t : Nat → Int} (h : Inv N (N.n : Int) N.m s t) (hl : ¬ s.last < 0) :
    ∃ z : Nat, s.last = (z : Int) ∧ z < N.n ∧ (∀ i, it N s i z < N.n ∧ 0 ≤ s.par (it N s i z)) ∧ ∃ k, 0 < k ∧ k ≤ N.n ∧ it N s k (it N s N.n z) = it N s N.n z := by
  rcases h.l with ⟨h0, _⟩ | ⟨z, hz, h1, h2⟩
  · omega
  · have hb : ∀ i : Nat, i ≤ N.n → it N s i z < N.n ∧ (N.n : Int) - i ≤ t (it N s i z) := fun i => by
      induction i with
      | zero => intro _; exact ⟨hz, by rw [it, h2]; omega⟩
      | succ i ih =>
        intro hi
        obtain ⟨g1, g2⟩ := ih (by omega)
        rw [it_succ]
        obtain ⟨c1, c2⟩ := h.c _ g1 (by omega)
        exact ⟨hN.fr _ (h.a _ g1 c1).1, by omega⟩
    obtain ⟨i, j, hij, hj, he⟩ := pigeon N.n (fun i => it N s i z) (fun i hi => (hb i hi).1)
    have he : it N s i z = it N s j z := he
    -- from i on the walk comes back with the period j - i
    have per : ∀ d, it N s (i + d + (j - i)) z = it N s (i + d) z := fun d => by
      rw [show i + d + (j - i) = j + d by omega, it_add N s d j, ← he, ← it_add]
    have all : ∀ q, ∃ q', q' ≤ N.n ∧ it N s q z = it N s q' z := fun q => by
      induction q using Nat.strongRecOn with
      | ind q ih =>
        by_cases hq : q ≤ N.n
        · exact ⟨q, hq, rfl⟩
        · have e := per (q - j)
          rw [show i + (q - j) + (j - i) = q by omega] at e
          obtain ⟨q', h1, h2⟩ := ih (i + (q - j)) (by omega)
          exact ⟨q', h1, by rw [e, h2]⟩
    refine ⟨z, h1, hz, fun q => ?_, j - i, by omega, by omega, ?_⟩
    · obtain ⟨q', g1, g2⟩ := all q
      rw [g2]
      obtain ⟨g3, g4⟩ := hb q' g1
      exact ⟨g3, (h.c _ g3 (by omega)).1⟩
    · rw [← it_add]
      have e := per (N.n - i)
      rw [show i + (N.n - i) + (j - i) = N.n + (j - i) by omega, show i + (N.n - i) = N.n by omega] at e
      exact e
end Go.Fl
