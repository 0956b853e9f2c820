/- Cycles are gone along till there is none: the plain function and what it gives. Plain. Fuel does not matter; two flows whose levels hold cost the same. Plain. Networks side by side, costs changed by levels, costs multiplied. Plain. -/
import Derived.Test.YtkpidpmlehkjbaaWg
set_option linter.unusedSimpArgs false
set_option linter.unusedVariables false
namespace Go.Fl
/-- The steps of a walk until it first comes back. -/
def per (N : Net) (s : Bf) (v : Nat) : Nat := ((List.range N.n).find? (fun i => it N s (i + 1) v == v)).getD 0 + 1
theorem per_eq {N : Net} {s : Bf} {v k : Nat} (h0 : 0 < k) (hk : k ≤ N.n) (h1 : it N s k v = v) (h2 : ∀ i, 0 < i → i < k → it N s i v ≠ v) : per N s v = k := by
  have : (List.range N.n).find? (fun i => it N s (i + 1) v == v) = some (k - 1) := by
    rw [List.find?_range_eq_some]
    refine ⟨by rw [show k - 1 + 1 = k by omega, h1]; exact beq_self_eq_true v, by simp; omega, fun j hj => ?_⟩
    have := h2 (j + 1) (by omega) (by omega)
    simpa using this
  rw [per, this]
  show k - 1 + 1 = k
  omega
/-- The levels of a flow. -/
def lvs (n : Nat) (l : List Ed) (F : List Int) : Bf := rnds (netOf n l F) (n + 1)
/-- The cycle along which a flow is made cheaper, and what it is then. -/
def cyc (n : Nat) (l : List Ed) (F : List Int) : List Nat := let s := lvs n l F; let v := it (netOf n l F) s n s.last.toNat; bk (netOf n l F) s (per (netOf n l F) s v) v
def chp (m : Int) (n : Nat) (l : List Ed) (F : List Int) : List Int := pus (room l F m (cyc n l F)) F (cyc n l F)
/-- Cycles are gone along till there is none. -/
def can (m : Int) (n : Nat) (l : List Ed) : Nat → List Int → List Int
  | 0, F => F
  | q + 1, F => if (lvs n l F).last < 0 then F else can m n l q (chp m n l F)
theorem chp_ok {m : Int} (hm : 1 ≤ m) {n : Nat} {l : List Ed} {F : List Int} (hn : nodes n l) (hF : inB l F) (hc : circ n l F) (hl : ¬ (lvs n l F).last < 0) : inB l (chp m n l F) ∧ circ n l (chp m n l F) ∧ cost l (chp m n l F) < cost l F := by
  obtain ⟨t, h⟩ := inv_rnds (netOk F hn) n
  obtain ⟨z, v, k, h1, h2, h3, h4, h5, h6, h7, h8, h9, h10, h11, h12⟩ := neg_cycle hn h hl
  have e : cyc n l F = bk (netOf n l F) (lvs n l F) k v := by
    have e1 : (lvs n l F).last.toNat = z := by
      have h1 : (lvs n l F).last = (z : Int) := h1
      omega
    show bk (netOf n l F) (lvs n l F) (per (netOf n l F) (lvs n l F) (it (netOf n l F) (lvs n l F) n (lvs n l F).last.toNat)) (it (netOf n l F) (lvs n l F) n (lvs n l F).last.toNat) = _
    rw [e1, show it (netOf n l F) (lvs n l F) n z = v from h4, show per (netOf n l F) (lvs n l F) v = k from per_eq h5 h6 h7 h8]
  have r := room_le (l := l) (F := F) (P := cyc n l F) (m := m)
  rw [chp, e] at *
  obtain ⟨r1, r2, r3⟩ := r
  have hd : 1 ≤ room l F m (bk (netOf n l F) (lvs n l F) k v) := r3 1 hm fun x hx => (h10 x hx).2
  exact ⟨inB_pus hF (by omega) (fun x hx => ⟨by have := (h10 x hx).1; omega, r2 x hx⟩) h11, pus_circ hF hc h9, pus_less hF (fun x hx => (h10 x hx).1) hd h12⟩
/-- With enough fuel: a circulation whose levels show that it costs the least. -/
theorem can_ok {m : Int} (hm : 1 ≤ m) {n : Nat} {l : List Ed} (hn : nodes n l) {B : Int} (hB : ∀ F, inB l F → -B ≤ cost l F) : ∀ (q : Nat) {F : List Int}, inB l F → circ n l F → cost l F + B < q → inB l (can m n l q F) ∧ circ n l (can m n l q F) ∧ (lvs n l (can m n l q F)).last < 0
  | 0, F, hF, hc, hq => by have := hB F hF; omega
  | q + 1, F, hF, hc, hq => by
    rw [can]
    split
    · rename_i h; exact ⟨hF, hc, h⟩
    · rename_i h
      obtain ⟨a1, a2, a3⟩ := chp_ok hm hn hF hc h
      exact can_ok hm hn hB q a1 a2 (by omega)
end Go.Fl

namespace Go.Fl
end Go.Fl

namespace Go.Fl
theorem cost_app {k : List Ed} {G : List Int} : ∀ {l : List Ed} {F : List Int}, F.length = l.length → cost (l ++ k) (F ++ G) = cost l F + cost k G
  | [], [], _ => by simp [cost]
  | [], _ :: _, h => by simp at h
  | _ :: _, [], h => by simp at h
  | e :: l, f :: F, h => by
    show f * e.c + cost (l ++ k) (F ++ G) = f * e.c + cost l F + cost k G
    rw [cost_app (by simpa using h)]; omega
theorem bal_app {k : List Ed} {G : List Int} (v : Int) : ∀ {l : List Ed} {F : List Int}, F.length = l.length → bal (l ++ k) (F ++ G) v = bal l F v + bal k G v
  | [], [], _ => by simp [bal]
  | [], _ :: _, h => by simp at h
  | _ :: _, [], h => by simp at h
  | e :: l, f :: F, h => by
    show (if e.b = v then f else 0) - (if e.a = v then f else 0) + bal (l ++ k) (F ++ G) v = (if e.b = v then f else 0) - (if e.a = v then f else 0) + bal l F v + bal k G v
    rw [bal_app v (by simpa using h)]; omega
theorem inB_app {k : List Ed} {G : List Int} : ∀ {l : List Ed} {F : List Int}, F.length = l.length → (inB (l ++ k) (F ++ G) ↔ inB l F ∧ inB k G)
  | [], [], _ => ⟨fun h => ⟨trivial, h⟩, fun h => h.2⟩
  | [], _ :: _, h => by simp at h
  | _ :: _, [], h => by simp at h
  | e :: l, f :: F, h => by
    show (e.lo ≤ f ∧ f ≤ e.hi ∧ inB (l ++ k) (F ++ G)) ↔ ((e.lo ≤ f ∧ f ≤ e.hi ∧ inB l F) ∧ inB k G)
    rw [inB_app (by simpa using h)]
    constructor
    · rintro ⟨a, b, c, d⟩; exact ⟨⟨a, b, c⟩, d⟩
    · rintro ⟨⟨a, b, c⟩, d⟩; exact ⟨a, b, c, d⟩
/-- An edge with its nodes s on. -/
def Ed.on (s : Int) (e : Ed) : Ed := ⟨e.a + s, e.b + s, e.lo, e.hi, e.c⟩
theorem bal_on (s v : Int) : ∀ (l : List Ed) (F : List Int), bal (l.map (Ed.on s)) F v = bal l F (v - s)
  | [], _ => by simp [bal]
  | _ :: _, [] => by simp [bal]
  | e :: l, f :: F => by
    show (if e.b + s = v then f else 0) - (if e.a + s = v then f else 0) + bal (l.map (Ed.on s)) F v = (if e.b = v - s then f else 0) - (if e.a = v - s then f else 0) + bal l F (v - s)
    rw [bal_on s v l F]
    split <;> split <;> split <;> split <;> omega
theorem cost_on (s : Int) : ∀ (l : List Ed) (F : List Int), cost (l.map (Ed.on s)) F = cost l F
  | [], _ => by simp [cost]
  | _ :: _, [] => by simp [cost]
  | e :: l, f :: F => by
    show f * e.c + cost (l.map (Ed.on s)) F = f * e.c + cost l F
    rw [cost_on s l F]
theorem bal_out {v : Int} : ∀ {l : List Ed} {F : List Int}, (∀ e ∈ l, e.a ≠ v ∧ e.b ≠ v) → bal l F v = 0
  | [], _, _ => by simp [bal]
  | _ :: _, [], _ => by simp [bal]
  | e :: l, f :: F, h => by
    obtain ⟨h1, h2⟩ := h e (by simp)
    rw [bal, if_neg h1, if_neg h2, bal_out fun x hx => h x (by simp [hx])]; rfl
end Go.Fl
