/- Levels: rounds that change nothing, how far they fall, slackness. Plain. Flows changed along a cycle: less cost; rooms; bounds of costs. Plain. A search that finds no way: what it has met blocks. Plain. Cycles are gone along till there is none: the plain function and what it gives. Plain. Fuel does not matter; two flows whose levels hold cost the same. Plain. Networks side by side, costs changed by levels, costs multiplied. Plain. -/
import Derived.Test.YtkpidpmlehkjbaaWd
set_option linter.unusedSimpArgs false
set_option linter.unusedVariables false
namespace Go.Fl
theorem rl_id {N : Net} {s : Bf} {j : Nat} (h : N.op j = true → s.lev (N.to j) ≤ s.lev (N.fr j) + N.co j) : rl N j s = s := if_neg fun ⟨h1, h2⟩ => by
  have := h h1
  omega
theorem rls_id {N : Net} {s : Bf} (h : ∀ y, y < N.m → N.op y = true → s.lev (N.to y) ≤ s.lev (N.fr y) + N.co y) : ∀ {j : Nat}, j ≤ N.m → rls N s j = s
  | 0, _ => rfl
  | j + 1, hj => by rw [rls, rls_id h (by omega)]; exact rl_id (h j (by omega))
/-- A round that changes nothing: all later ones leave the same. -/
theorem rnds_still {N : Net} (hN : N.Ok) {k : Nat} (hl : (rnds N (k + 1)).last < 0) : ∀ j, rnds N (k + 1 + j) = rnds N (k + 1)
  | 0 => rfl
  | j + 1 => by
    show rnd N (rnds N (k + 1 + j)) = _
    rw [rnds_still hN hl j]
    obtain ⟨t, h⟩ := inv_rnds hN k
    have hs := still hN h hl
    have e : (⟨(rnds N (k + 1)).lev, (rnds N (k + 1)).par, -1⟩ : Bf) = rnds N (k + 1) := by
      rcases h.l with ⟨h0, _⟩ | ⟨v, _, h1, _⟩
      · rw [← h0]
      · omega
    rw [rnd, e]
    exact rls_id hs (Nat.le_refl _)
/-- Levels that hold for the open arcs show that the flow costs the least. -/
theorem slack_of {n : Nat} {l : List Ed} {F : List Int} (hn : nodes n l) (hF : F.length = l.length) {g : Nat → Int} (h : ∀ y, y < 2 * l.length → 0 < aR l F y → g (aT l y).toNat ≤ g (aF l y).toNat + aC l y) : slack (fun v => g v.toNat) l F := (slack_iff hF).2 fun i hi => by
  have h1 := h (2 * i) (by omega)
  have h2 := h (2 * i + 1) (by omega)
  rw [aR, aT, aF, aC, if_pos (by omega), if_pos (by omega), if_pos (by omega), if_pos (by omega), show 2 * i / 2 = i by omega] at h1
  rw [aR, aT, aF, aC, if_neg (by omega), if_neg (by omega), if_neg (by omega), if_neg (by omega), show (2 * i + 1) / 2 = i by omega] at h2
  refine ⟨fun hx => ?_, fun hx => ?_⟩
  · apply Int.not_lt.1; intro hc
    have := h1 (by omega)
    omega
  · apply Int.not_lt.1; intro hc
    have := h2 (by omega)
    omega
/-- How far levels fall. -/
theorem rl_low {N : Net} (hN : N.Ok) {B C : Int} (hB : 0 ≤ B) (hC : ∀ x, x < N.m → -C ≤ N.co x) (hC0 : 0 ≤ C) {j : Nat} (hj : j < N.m) {s : Bf} (h : ∀ v, v < N.n → -B ≤ s.lev v ∧ s.lev v ≤ 0) : ∀ v, v < N.n → -(B + C) ≤ (rl N j s).lev v ∧ (rl N j s).lev v ≤ 0 := fun v hv => by
  have h0 := h v hv
  rw [rl]
  split
  · rename_i hc
    show -(B + C) ≤ (if v = N.to j then s.lev (N.fr j) + N.co j else s.lev v) ∧ (if v = N.to j then s.lev (N.fr j) + N.co j else s.lev v) ≤ 0
    have h1 := h _ (hN.fr j hj)
    have h2 := h _ (hN.to j hj)
    have h3 := hC j hj
    split <;> omega
  · omega
theorem rls_low {N : Net} (hN : N.Ok) {B C : Int} (hB : 0 ≤ B) (hC : ∀ x, x < N.m → -C ≤ N.co x) (hC0 : 0 ≤ C) {s : Bf} (h : ∀ v, v < N.n → -B ≤ s.lev v ∧ s.lev v ≤ 0) : ∀ {j : Nat}, j ≤ N.m → ∀ v, v < N.n → -(B + j * C) ≤ (rls N s j).lev v ∧ (rls N s j).lev v ≤ 0
  | 0, _, v, hv => by
    have := h v hv
    rw [rls]
    simp
    omega
  | j + 1, hj, v, hv => by
    have hm : 0 ≤ (j : Int) * C := Int.mul_nonneg (by omega) hC0
    have := rl_low hN (B := B + j * C) (by omega) hC hC0 (show j < N.m by omega) (rls_low hN hB hC hC0 h (j := j) (by omega)) v hv
    rw [show ((j + 1 : Nat) : Int) * C = j * C + C by rw [Int.natCast_add, Int.add_mul]; simp]
    rw [rls]
    omega
theorem rnds_low {N : Net} (hN : N.Ok) {C : Int} (hC : ∀ x, x < N.m → -C ≤ N.co x) (hC0 : 0 ≤ C) : ∀ k v, v < N.n → -(k * (N.m * C)) ≤ (rnds N k).lev v ∧ (rnds N k).lev v ≤ 0
  | 0, v, _ => by
    show -(((0 : Nat) : Int) * (N.m * C)) ≤ 0 ∧ (0 : Int) ≤ 0
    simp
  | k + 1, v, hv => by
    have hm : 0 ≤ (k : Int) * (N.m * C) := Int.mul_nonneg (by omega) (Int.mul_nonneg (by omega) hC0)
    have := rls_low hN hm hC hC0 (s := ⟨(rnds N k).lev, (rnds N k).par, -1⟩) (rnds_low hN hC hC0 k) (Nat.le_refl N.m) v hv
    rw [show ((k + 1 : Nat) : Int) * (N.m * C) = k * (N.m * C) + N.m * C by rw [Int.natCast_add, Int.add_mul]; simp]
    exact this
end Go.Fl

namespace Go.Fl
theorem pus_circ {n : Nat} {l : List Ed} {F : List Int} {d v : Int} {P : List Nat} (hF : inB l F) (hc : circ n l F) (hP : chain l P v v) : circ n l (pus d F P) := fun w hw => by
  rw [bal_pus d w (inB_iff.1 hF).1 hP, hc w hw]
  omega
theorem pus_less {l : List Ed} {F : List Int} {d : Int} {P : List Nat} (hF : inB l F) (hP : ∀ x ∈ P, x < 2 * l.length) (hd : 1 ≤ d) (h : costP l P < 0) : cost l (pus d F P) < cost l F := by
  rw [cost_pus d (inB_iff.1 hF).1 (fun x hx => by have := hP x hx; omega)]
  have : d * costP l P ≤ 1 * costP l P := Int.mul_le_mul_of_nonpos_right hd (by omega)
  omega
/-- The least room of arcs, at most m. -/
def room (l : List Ed) (F : List Int) (m : Int) (P : List Nat) : Int := P.foldl (fun m x => min m (aR l F x)) m
theorem room_le {l : List Ed} {F : List Int} : ∀ {P : List Nat} {m : Int}, room l F m P ≤ m ∧ (∀ x ∈ P, room l F m P ≤ aR l F x) ∧ ∀ b, b ≤ m → (∀ x ∈ P, b ≤ aR l F x) → b ≤ room l F m P
  | [], m => ⟨Int.le_refl _, fun x hx => by simp at hx, fun b h _ => h⟩
  | x :: P, m => by
    obtain ⟨h1, h2, h3⟩ := room_le (l := l) (F := F) (P := P) (m := min m (aR l F x))
    show room l F (min m (aR l F x)) P ≤ m ∧ (∀ y ∈ x :: P, room l F (min m (aR l F x)) P ≤ aR l F y) ∧ ∀ b, b ≤ m → (∀ y ∈ x :: P, b ≤ aR l F y) → b ≤ room l F (min m (aR l F x)) P
    refine ⟨by omega, fun y hy => ?_, fun b hb hy => h3 b ?_ fun y hy2 => hy y (by simp [hy2])⟩
    · rcases List.mem_cons.1 hy with rfl | hy
      · omega
      · exact h2 y hy
    · have := hy x (by simp)
      omega
/-- A flow's cost lies between bounds. -/
theorem cost_low {C H : Int} (hC : 0 ≤ C) : ∀ {l : List Ed} {F : List Int}, inB l F → (∀ e ∈ l, 0 ≤ e.lo ∧ e.hi ≤ H ∧ -C ≤ e.c ∧ e.c ≤ C) → -(l.length * (H * C)) ≤ cost l F ∧ cost l F ≤ l.length * (H * C)
  | [], [], _, _ => by simp [cost]
  | e :: l, f :: F, h, hl => by
    obtain ⟨a1, a2, a3, a4⟩ := hl e (by simp)
    obtain ⟨h1, h2, h3⟩ := h
    obtain ⟨i1, i2⟩ := cost_low (H := H) hC h3 (fun x hx => hl x (by simp [hx]))
    have q1 : f * e.c ≤ f * C := Int.mul_le_mul_of_nonneg_left a4 (by omega)
    have q2 : f * -C ≤ f * e.c := Int.mul_le_mul_of_nonneg_left a3 (by omega)
    have q3 : f * C ≤ H * C := Int.mul_le_mul_of_nonneg_right (by omega) hC
    rw [Int.mul_neg] at q2
    rw [cost, List.length_cons, show ((l.length + 1 : Nat) : Int) * (H * C) = l.length * (H * C) + H * C by rw [Int.natCast_add, Int.add_mul]; simp]
    omega
  | [], _ :: _, h, _ => h.elim
  | _ :: _, [], h, _ => h.elim
end Go.Fl

namespace Go.Fl
theorem over_eq {S : Int → Bool} : ∀ {l : List Ed} {F : List Int}, inB l F → (∀ i, i < l.length → (S (l.getD i edZ).a = true → F.getD i 0 < (l.getD i edZ).hi → S (l.getD i edZ).b = true) ∧ (S (l.getD i edZ).b = true → (l.getD i edZ).lo < F.getD i 0 → S (l.getD i edZ).a = true)) → over S l = - pot (fun v => if S v then 1 else 0) l F
  | [], [], _, _ => rfl
  | e :: l, f :: F, h, hc => by
    have ih := over_eq (S := S) h.2.2 (fun i hi => hc (i + 1) (by simpa using hi))
    obtain ⟨h1, h2, _⟩ := h
    have h0 := hc 0 (by simp)
    have g1 : S e.a = true → f < e.hi → S e.b = true := h0.1
    have g2 : S e.b = true → e.lo < f → S e.a = true := h0.2
    rw [over, pot, ih]
    cases ha : S e.a <;> cases hb : S e.b <;> rw [ha, hb] at g1 g2 <;> simp at g1 g2 ⊢ <;> omega
  | [], _ :: _, h, _ => h.elim
  | _ :: _, [], h, _ => h.elim
theorem sumN_pos {g : Nat → Int} : ∀ {n : Nat}, (∀ v, v < n → 0 ≤ g v) → 0 ≤ sumN g n ∧ ((∃ v, v < n ∧ 0 < g v) → 0 < sumN g n)
  | 0, _ => ⟨Int.le_refl _, fun ⟨v, h, _⟩ => by omega⟩
  | n + 1, h => by
    obtain ⟨h1, h2⟩ := sumN_pos (g := g) (n := n) (fun v hv => h v (by omega))
    have h3 := h n (by omega)
    rw [sumN]
    refine ⟨by omega, fun ⟨v, hv, h4⟩ => ?_⟩
    by_cases e : v = n
    · subst e; omega
    · have := h2 ⟨v, by omega, h4⟩
      omega
/-- A search that finds no node with too little: what it has met blocks. -/
theorem blocks {S : Int → Bool} {n : Nat} {l : List Ed} {F : List Int} (hn : nodes n l) (hF : inB l F) (hc : ∀ x, x < 2 * l.length → S (aF l x) = true → 0 < aR l F x → S (aT l x) = true) (hb : ∀ v : Nat, v < n → S v = true → 0 ≤ bal l F v) {z : Nat} (hz : z < n) (hzS : S z = true) (hzb : 0 < bal l F z) : 0 < over S l := by
  rw [over_eq (F := F) hF (fun i hi => by
    have h1 := hc (2 * i) (by omega)
    have h2 := hc (2 * i + 1) (by omega)
    rw [aR, aT, aF, if_pos (by omega), if_pos (by omega), if_pos (by omega), show 2 * i / 2 = i by omega] at h1
    rw [aR, aT, aF, if_neg (by omega), if_neg (by omega), if_neg (by omega), show (2 * i + 1) / 2 = i by omega] at h2
    exact ⟨fun g1 g2 => h1 g1 (by omega), fun g1 g2 => h2 g1 (by omega)⟩), ← pot_sum _ n l F hn]
  refine (sumN_pos fun v hv => ?_).2 ⟨z, hz, ?_⟩
  · by_cases h : S v = true
    · rw [if_pos h, Int.one_mul]; exact hb v hv h
    · rw [if_neg h, Int.zero_mul]; exact Int.le_refl 0
  · rw [if_pos hzS, Int.one_mul]; exact hzb
end Go.Fl

namespace Go.Fl
/-- The steps of a walk until it first comes back. -/
def per (N : Net) (s : Bf) (v : Nat) : Nat := ((List.range N.n).find? (fun i => it N s (i + 1) v == v)).getD 0 + 1
theorem per_eq {N : Net} {s : Bf} {v k : Nat} (h0 : 0 < k) (hk : k ≤ N.n) (h1 : it N s k v = v) (h2 : ∀ i, 0 < i → i < k → it N s i v ≠ v) : per N s v = k := by
  have : (List.range N.n).find? (fun i => it N s (i + 1) v == v) = some (k - 1) := by
    rw [List.find?_range_eq_some]
    refine ⟨by rw [show k - 1 + 1 = k by omega, h1]; exact beq_self_eq_true v, by simp; omega, fun j hj => ?_⟩
    have := h2 (j + 1) (by omega) (by omega)
    simpa using this
  rw [per, this]
  show k - 1 + 1 = k
  omega
/-- The levels of a flow. -/
def lvs (n : Nat) (l : List Ed) (F : List Int) : Bf := rnds (netOf n l F) (n + 1)
/-- The cycle along which a flow is made cheaper, and what it is then. -/
def cyc (n : Nat) (l : List Ed) (F : List Int) : List Nat := let s := lvs n l F; let v := it (netOf n l F) s n s.last.toNat; bk (netOf n l F) s (per (netOf n l F) s v) v
def chp (m : Int) (n : Nat) (l : List Ed) (F : List Int) : List Int := pus (room l F m (cyc n l F)) F (cyc n l F)
/-- Cycles are gone along till there is none. -/
def can (m : Int) (n : Nat) (l : List Ed) : Nat → List Int → List Int
  | 0, F => F
  | q + 1, F => if (lvs n l F).last < 0 then F else can m n l q (chp m n l F)
theorem chp_ok {m : Int} (hm : 1 ≤ m) {n : Nat} {l : List Ed} {F : List Int} (hn : nodes n l) (hF : inB l F) (hc : circ n l F) (hl : ¬ (lvs n l F).last < 0) : inB l (chp m n l F) ∧ circ n l (chp m n l F) ∧ cost l (chp m n l F) < cost l F := by
  obtain ⟨t, h⟩ := inv_rnds (netOk F hn) n
  obtain ⟨z, v, k, h1, h2, h3, h4, h5, h6, h7, h8, h9, h10, h11, h12⟩ := neg_cycle hn h hl
  have e : cyc n l F = bk (netOf n l F) (lvs n l F) k v := by
    have e1 : (lvs n l F).last.toNat = z := by
      have h1 : (lvs n l F).last = (z : Int) := h1
      omega
    show bk (netOf n l F) (lvs n l F) (per (netOf n l F) (lvs n l F) (it (netOf n l F) (lvs n l F) n (lvs n l F).last.toNat)) (it (netOf n l F) (lvs n l F) n (lvs n l F).last.toNat) = _
    rw [e1, show it (netOf n l F) (lvs n l F) n z = v from h4, show per (netOf n l F) (lvs n l F) v = k from per_eq h5 h6 h7 h8]
  have r := room_le (l := l) (F := F) (P := cyc n l F) (m := m)
  rw [chp, e] at *
  obtain ⟨r1, r2, r3⟩ := r
  have hd : 1 ≤ room l F m (bk (netOf n l F) (lvs n l F) k v) := r3 1 hm fun x hx => (h10 x hx).2
  exact ⟨inB_pus hF (by omega) (fun x hx => ⟨by have := (h10 x hx).1; omega, r2 x hx⟩) h11, pus_circ hF hc h9, pus_less hF (fun x hx => (h10 x hx).1) hd h12⟩
/-- With enough fuel: a circulation whose levels show that it costs the least. -/
theorem can_ok {m : Int} (hm : 1 ≤ m) {n : Nat} {l : List Ed} (hn : nodes n l) {B : Int} (hB : ∀ F, inB l F → -B ≤ cost l F) : ∀ (q : Nat) {F : List Int}, inB l F → circ n l F → cost l F + B < q → inB l (can m n l q F) ∧ circ n l (can m n l q F) ∧ (lvs n l (can m n l q F)).last < 0
  | 0, F, hF, hc, hq => by have := hB F hF; omega
  | q + 1, F, hF, hc, hq => by
    rw [can]
    split
    · rename_i h; exact ⟨hF, hc, h⟩
    · rename_i h
      obtain ⟨a1, a2, a3⟩ := chp_ok hm hn hF hc h
      exact can_ok hm hn hB q a1 a2 (by omega)
end Go.Fl

namespace Go.Fl
end Go.Fl

namespace Go.Fl
theorem cost_app {k : List Ed} {G : List Int} : ∀ {l : List Ed} {F : List Int}, F.length = l.length → cost (l ++ k) (F ++ G) = cost l F + cost k G
  | [], [], _ => by simp [cost]
  | [], _ :: _, h => by simp at h
  | _ :: _, [], h => by simp at h
  | e :: l, f :: F, h => by
    show f * e.c + cost (l ++ k) (F ++ G) = f * e.c + cost l F + cost k G
    rw [cost_app (by simpa using h)]; omega
theorem bal_app {k : List Ed} {G : List Int} (v : Int) : ∀ {l : List Ed} {F : List Int}, F.length = l.length → bal (l ++ k) (F ++ G) v = bal l F v + bal k G v
  | [], [], _ => by simp [bal]
  | [], _ :: _, h => by simp at h
  | _ :: _, [], h => by simp at h
  | e :: l, f :: F, h => by
    show (if e.b = v then f else 0) - (if e.a = v then f else 0) + bal (l ++ k) (F ++ G) v = (if e.b = v then f else 0) - (if e.a = v then f else 0) + bal l F v + bal k G v
    rw [bal_app v (by simpa using h)]; omega
theorem inB_app {k : List Ed} {G : List Int} : ∀ {l : List Ed} {F : List Int}, F.length = l.length → (inB (l ++ k) (F ++ G) ↔ inB l F ∧ inB k G)
  | [], [], _ => ⟨fun h => ⟨trivial, h⟩, fun h => h.2⟩
  | [], _ :: _, h => by simp at h
  | _ :: _, [], h => by simp at h
  | e :: l, f :: F, h => by
    show (e.lo ≤ f ∧ f ≤ e.hi ∧ inB (l ++ k) (F ++ G)) ↔ ((e.lo ≤ f ∧ f ≤ e.hi ∧ inB l F) ∧ inB k G)
    rw [inB_app (by simpa using h)]
    constructor
    · rintro ⟨a, b, c, d⟩; exact ⟨⟨a, b, c⟩, d⟩
    · rintro ⟨⟨a, b, c⟩, d⟩; exact ⟨a, b, c, d⟩
/-- An edge with its nodes s on. -/
def Ed.on (s : Int) (e : Ed) : Ed := ⟨e.a + s, e.b + s, e.lo, e.hi, e.c⟩
theorem bal_on (s v : Int) : ∀ (l : List Ed) (F : List Int), bal (l.map (Ed.on s)) F v = bal l F (v - s)
  | [], _ => by simp [bal]
  | _ :: _, [] => by simp [bal]
  | e :: l, f :: F => by
    show (if e.b + s = v then f else 0) - (if e.a + s = v then f else 0) + bal (l.map (Ed.on s)) F v = (if e.b = v - s then f else 0) - (if e.a = v - s then f else 0) + bal l F (v - s)
    rw [bal_on s v l F]
    split <;> split <;> split <;> split <;> omega
theorem cost_on (s : Int) : ∀ (l : List Ed) (F : List Int), cost (l.map (Ed.on s)) F = cost l F
  | [], _ => by simp [cost]
  | _ :: _, [] => by simp [cost]
  | e :: l, f :: F => by
    show f * e.c + cost (l.map (Ed.on s)) F = f * e.c + cost l F
    rw [cost_on s l F]
theorem bal_out {v : Int} : ∀ {l : List Ed} {F : List Int}, (∀ e ∈ l, e.a ≠ v ∧ e.b ≠ v) → bal l F v = 0
  | [], _, _ => by simp [bal]
  | _ :: _, [], _ => by simp [bal]
  | e :: l, f :: F, h => by
    obtain ⟨h1, h2⟩ := h e (by simp)
    rw [bal, if_neg h1, if_neg h2, bal_out fun x hx => h x (by simp [hx])]; rfl
/-- Costs changed by levels: a circulation costs the same. -/
theorem cost_pot {L : Int → Int} : ∀ (l : List Ed) (F : List Int), cost (l.map fun e => ⟨e.a, e.b, e.lo, e.hi, e.c + L e.a - L e.b⟩) F = cost l F + pot L l F
  | [], _ => by simp [cost, pot]
  | _ :: _, [] => by simp [cost, pot]
  | e :: l, f :: F => by
    show f * (e.c + L e.a - L e.b) + cost (l.map _) F = f * e.c + cost l F + (f * (L e.a - L e.b) + pot L l F)
    rw [cost_pot l F, show e.c + L e.a - L e.b = e.c + (L e.a - L e.b) by omega, Int.mul_add]; omega
theorem cost_mul (k : Int) : ∀ (l : List Ed) (F : List Int), cost (l.map fun e => ⟨e.a, e.b, e.lo, e.hi, k * e.c⟩) F = k * cost l F
  | [], _ => by simp [cost]
  | _ :: _, [] => by simp [cost]
  | e :: l, f :: F => by
    show f * (k * e.c) + cost (l.map _) F = k * (f * e.c + cost l F)
    rw [cost_mul k l F, Int.mul_add, Int.mul_left_comm]
end Go.Fl
