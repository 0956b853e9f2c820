/- Levels: rounds that change nothing, how far they fall, slackness. Plain. Flows changed along a cycle: less cost; rooms; bounds of costs. Plain. A search that finds no way: what it has met blocks. Plain. -/
import Derived.Test.YtkpidpmlehkjbaaWd
set_option linter.unusedSimpArgs false
set_option linter.unusedVariables false
namespace Go.Fl
theorem rl_id {N : Net} {s : Bf} {j : Nat} (h : N.op j = true → s.lev (N.to j) ≤ s.lev (N.fr j) + N.co j) : rl N j s = s := if_neg fun ⟨h1, h2⟩ => by
  have := h h1
  omega
theorem rls_id {N : Net} {s : Bf} (h : ∀ y, y < N.m → N.op y = true → s.lev (N.to y) ≤ s.lev (N.fr y) + N.co y) : ∀ {j : Nat}, j ≤ N.m → rls N s j = s
  | 0, _ => rfl
  | j + 1, hj => by rw [rls, rls_id h (by omega)]; exact rl_id (h j (by omega))
/-- A round that changes nothing: all later ones leave the same. -/
theorem rnds_still {N : Net} (hN : N.Ok) {k : Nat} (hl : (rnds N (k + 1)).last < 0) : ∀ j, rnds N (k + 1 + j) = rnds N (k + 1)
  | 0 => rfl
  | j + 1 => by
    show rnd N (rnds N (k + 1 + j)) = _
    rw [rnds_still hN hl j]
    obtain ⟨t, h⟩ := inv_rnds hN k
    have hs := still hN h hl
    have e : (⟨(rnds N (k + 1)).lev, (rnds N (k + 1)).par, -1⟩ : Bf) = rnds N (k + 1) := by
      rcases h.l with ⟨h0, _⟩ | ⟨v, _, h1, _⟩
      · rw [← h0]
      · omega
    rw [rnd, e]
    exact rls_id hs (Nat.le_refl _)
/-- Levels that hold for the open arcs show that the flow costs the least. -/
theorem slack_of {n : Nat} {l : List Ed} {F : List Int} (hn : nodes n l) (hF : F.length = l.length) {g : Nat → Int} (h : ∀ y, y < 2 * l.length → 0 < aR l F y → g (aT l y).toNat ≤ g (aF l y).toNat + aC l y) : slack (fun v => g v.toNat) l F := (slack_iff hF).2 fun i hi => by
  have h1 := h (2 * i) (by omega)
  have h2 := h (2 * i + 1) (by omega)
  rw [aR, aT, aF, aC, if_pos (by omega), if_pos (by omega), if_pos (by omega), if_pos (by omega), show 2 * i / 2 = i by omega] at h1
  rw [aR, aT, aF, aC, if_neg (by omega), if_neg (by omega), if_neg (by omega), if_neg (by omega), show (2 * i + 1) / 2 = i by omega] at h2
  refine ⟨fun hx => ?_, fun hx => ?_⟩
  · apply Int.not_lt.1; intro hc
    have := h1 (by omega)
    omega
  · apply Int.not_lt.1; intro hc
    have := h2 (by omega)
    omega
/-- How far levels fall. -/
theorem rl_low {N : Net} (hN : N.Ok) {B C : Int} (hB : 0 ≤ B) (hC : ∀ x, x < N.m → -C ≤ N.co x) (hC0 : 0 ≤ C) {j : Nat} (hj : j < N.m) {s : Bf} (h : ∀ v, v < N.n → -B ≤ s.lev v ∧ s.lev v ≤ 0) : ∀ v, v < N.n → -(B + C) ≤ (rl N j s).lev v ∧ (rl N j s).lev v ≤ 0 := fun v hv => by
  have h0 := h v hv
  rw [rl]
  split
  · rename_i hc
    show -(B + C) ≤ (if v = N.to j then s.lev (N.fr j) + N.co j else s.lev v) ∧ (if v = N.to j then s.lev (N.fr j) + N.co j else s.lev v) ≤ 0
    have h1 := h _ (hN.fr j hj)
    have h2 := h _ (hN.to j hj)
    have h3 := hC j hj
    split <;> omega
  · omega
theorem rls_low {N : Net} (hN : N.Ok) {B C : Int} (hB : 0 ≤ B) (hC : ∀ x, x < N.m → -C ≤ N.co x) (hC0 : 0 ≤ C) {s : Bf} (h : ∀ v, v < N.n → -B ≤ s.lev v ∧ s.lev v ≤ 0) : ∀ {j : Nat}, j ≤ N.m → ∀ v, v < N.n → -(B + j * C) ≤ (rls N s j).lev v ∧ (rls N s j).lev v ≤ 0
  | 0, _, v, hv => by
    have := h v hv
    rw [rls]
    simp
    omega
  | j + 1, hj, v, hv => by
    have hm : 0 ≤ (j : Int) * C := Int.mul_nonneg (by omega) hC0
    have := rl_low hN (B := B + j * C) (by omega) hC hC0 (show j < N.m by omega) (rls_low hN hB hC hC0 h (j := j) (by omega)) v hv
    rw [show ((j + 1 : Nat) : Int) * C = j * C + C by rw [Int.natCast_add, Int.add_mul]; simp]
    rw [rls]
    omega
theorem rnds_low {N : Net} (hN : N.Ok) {C : Int} (hC : ∀ x, x < N.m → -C ≤ N.co x) (hC0 : 0 ≤ C) : ∀ k v, v < N.n → -(k * (N.m * C)) ≤ (rnds N k).lev v ∧ (rnds N k).lev v ≤ 0
  | 0, v, _ => by
    show -(((0 : Nat) : Int) * (N.m * C)) ≤ 0 ∧ (0 : Int) ≤ 0
    simp
  | k + 1, v, hv => by
    have hm : 0 ≤ (k : Int) * (N.m * C) := Int.mul_nonneg (by omega) (Int.mul_nonneg (by omega) hC0)
    have := rls_low hN hm hC hC0 (s := ⟨(rnds N k).lev, (rnds N k).par, -1⟩) (rnds_low hN hC hC0 k) (Nat.le_refl N.m) v hv
    rw [show ((k + 1 : Nat) : Int) * (N.m * C) = k * (N.m * C) + N.m * C by rw [Int.natCast_add, Int.add_mul]; simp]
    exact this
end Go.Fl

namespace Go.Fl
theorem pus_circ {n : Nat} {l : List Ed} {F : List Int} {d v : Int} {P : List Nat} (hF : inB l F) (hc : circ n l F) (hP : chain l P v v) : circ n l (pus d F P) := fun w hw => by
  rw [bal_pus d w (inB_iff.1 hF).1 hP, hc w hw]
  omega
theorem pus_less {l : List Ed} {F : List Int} {d : Int} {P : List Nat} (hF : inB l F) (hP : ∀ x ∈ P, x < 2 * l.length) (hd : 1 ≤ d) (h : costP l P < 0) : cost l (pus d F P) < cost l F := by
  rw [cost_pus d (inB_iff.1 hF).1 (fun x hx => by have := hP x hx; omega)]
  have : d * costP l P ≤ 1 * costP l P := Int.mul_le_mul_of_nonpos_right hd (by omega)
  omega
/-- The least room of arcs, at most m. -/
def room (l : List Ed) (F : List Int) (m : Int) (P : List Nat) : Int := P.foldl (fun m x => min m (aR l F x)) m
theorem room_le {l : List Ed} {F : List Int} : ∀ {P : List Nat} {m : Int}, room l F m P ≤ m ∧ (∀ x ∈ P, room l F m P ≤ aR l F x) ∧ ∀ b, b ≤ m → (∀ x ∈ P, b ≤ aR l F x) → b ≤ room l F m P
  | [], m => ⟨Int.le_refl _, fun x hx => by simp at hx, fun b h _ => h⟩
  | x :: P, m => by
    obtain ⟨h1, h2, h3⟩ := room_le (l := l) (F := F) (P := P) (m := min m (aR l F x))
    show room l F (min m (aR l F x)) P ≤ m ∧ (∀ y ∈ x :: P, room l F (min m (aR l F x)) P ≤ aR l F y) ∧ ∀ b, b ≤ m → (∀ y ∈ x :: P, b ≤ aR l F y) → b ≤ room l F (min m (aR l F x)) P
    refine ⟨by omega, fun y hy => ?_, fun b hb hy => h3 b ?_ fun y hy2 => hy y (by simp [hy2])⟩
    · rcases List.mem_cons.1 hy with rfl | hy
      · omega
      · exact h2 y hy
    · have := hy x (by simp)
      omega
/-- A flow's cost lies between bounds. -/
theorem cost_low {C H : Int} (hC : 0 ≤ C) : ∀ {l : List Ed} {F : List Int}, inB l F → (∀ e ∈ l, 0 ≤ e.lo ∧ e.hi ≤ H ∧ -C ≤ e.c ∧ e.c ≤ C) → -(l.length * (H * C)) ≤ cost l F ∧ cost l F ≤ l.length * (H * C)
  | [], [], _, _ => by simp [cost]
  | e :: l, f :: F, h, hl => by
    obtain ⟨a1, a2, a3, a4⟩ := hl e (by simp)
    obtain ⟨h1, h2, h3⟩ := h
    obtain ⟨i1, i2⟩ := cost_low (H := H) hC h3 (fun x hx => hl x (by simp [hx]))
    have q1 : f * e.c ≤ f * C := Int.mul_le_mul_of_nonneg_left a4 (by omega)
    have q2 : f * -C ≤ f * e.c := Int.mul_le_mul_of_nonneg_left a3 (by omega)
    have q3 : f * C ≤ H * C := Int.mul_le_mul_of_nonneg_right (by omega) hC
    rw [Int.mul_neg] at q2
    rw [cost, List.length_cons, show ((l.length + 1 : Nat) : Int) * (H * C) = l.length * (H * C) + H * C by rw [Int.natCast_add, Int.add_mul]; simp]
    omega
  | [], _ :: _, h, _ => h.elim
  | _ :: _, [], h, _ => h.elim
end Go.Fl

namespace Go.Fl
theorem over_eq {S : Int → Bool} : ∀ {l : List Ed} {F : List Int}, inB l F → (∀ i, i < l.length → (S (l.getD i edZ).a = true → F.getD i 0 < (l.getD i edZ).hi → S (l.getD i edZ).b = true) ∧ (S (l.getD i edZ).b = true → (l.getD i edZ).lo < F.getD i 0 → S (l.getD i edZ).a = true)) → over S l = - pot (fun v => if S v then 1 else 0) l F
  | [], [], _, _ => rfl
  | e :: l, f :: F, h, hc => by
    have ih := over_eq (S := S) h.2.2 (fun i hi => hc (i + 1) (by simpa using hi))
    obtain ⟨h1, h2, _⟩ := h
    have h0 := hc 0 (by simp)
    have g1 : S e.a = true → f < e.hi → S e.b = true := h0.1
    have g2 : S e.b = true → e.lo < f → S e.a = true := h0.2
    rw [over, pot, ih]
    cases ha : S e.a <;> cases hb : S e.b <;> rw [ha, hb] at g1 g2 <;> simp at g1 g2 ⊢ <;> omega
  | [], _ :: _, h, _ => h.elim
  | _ :: _, [], h, _ => h.elim
theorem sumN_pos {g : Nat → Int} : ∀ {n : Nat}, (∀ v, v < n → 0 ≤ g v) → 0 ≤ sumN g n ∧ ((∃ v, v < n ∧ 0 < g v) → 0 < sumN g n)
  | 0, _ => ⟨Int.le_refl _, fun ⟨v, h, _⟩ => by omega⟩
  | n + 1, h => by
    obtain ⟨h1, h2⟩ := sumN_pos (g := g) (n := n) (fun v hv => h v (by omega))
    have h3 := h n (by omega)
    rw [sumN]
    refine ⟨by omega, fun ⟨v, hv, h4⟩ => ?_⟩
    by_cases e : v = n
    · subst e; omega
    · have := h2 ⟨v, by omega, h4⟩
      omega
/-- A search that finds no node with too little: what it has met blocks. -/
theorem blocks {S : Int → Bool} {n : Nat} {l : List Ed} {F : List Int} (hn : nodes n l) (hF : inB l F) (hc : ∀ x, x < 2 * l.length → S (aF l x) = true → 0 < aR l F x → S (aT l x) = true) (hb : ∀ v : Nat, v < n → S v = true → 0 ≤ bal l F v) {z : Nat} (hz : z < n) (hzS : S z = true) (hzb : 0 < bal l F z) : 0 < over S l := by
  rw [over_eq (F := F) hF (fun i hi => by
    have h1 := hc (2 * i) (by omega)
    have h2 := hc (2 * i + 1) (by omega)
    rw [aR, aT, aF, if_pos (by omega), if_pos (by omega), if_pos (by omega), show 2 * i / 2 = i by omega] at h1
    rw [aR, aT, aF, if_neg (by omega), if_neg (by omega), if_neg (by omega), show (2 * i + 1) / 2 = i by omega] at h2
    exact ⟨fun g1 g2 => h1 g1 (by omega), fun g1 g2 => h2 g1 (by omega)⟩), ← pot_sum _ n l F hn]
  refine (sumN_pos fun v hv => ?_).2 ⟨z, hz, ?_⟩
  · by_cases h : S v = true
    · rw [if_pos h, Int.one_mul]; exact hb v hv h
    · rw [if_neg h, Int.zero_mul]; exact Int.le_refl 0
  · rw [if_pos hzS, Int.one_mul]; exact hzb
end Go.Fl
