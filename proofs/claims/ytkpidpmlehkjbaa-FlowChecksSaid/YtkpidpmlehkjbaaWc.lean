/- Flows changed along arcs: balance, cost, bounds. Plain. -/
import Derived.Test.YtkpidpmlehkjbaaWb
set_option linter.unusedSimpArgs false
set_option linter.unusedVariables false
namespace Go.Fl
def edZ : Ed := ⟨0, 0, 0, 0, 0⟩
theorem inB_iff : ∀ {l : List Ed} {F : List Int}, inB l F ↔ F.length = l.length ∧ ∀ i, i < l.length → (l.getD i edZ).lo ≤ F.getD i 0 ∧ F.getD i 0 ≤ (l.getD i edZ).hi
  | [], [] => ⟨fun _ => ⟨rfl, fun i hi => absurd hi (Nat.not_lt_zero i)⟩, fun _ => trivial⟩
  | [], _ :: _ => ⟨fun h => h.elim, fun h => by simp at h⟩
  | _ :: _, [] => ⟨fun h => h.elim, fun h => by simp at h⟩
  | e :: l, f :: F => by
    rw [inB, inB_iff (l := l)]
    constructor
    · rintro ⟨h1, h2, h3, h4⟩
      refine ⟨by simp [h3], fun i hi => ?_⟩
      rcases i with _ | i
      · exact ⟨h1, h2⟩
      · exact h4 i (by simpa using hi)
    · rintro ⟨h1, h2⟩
      exact ⟨(h2 0 (by simp)).1, (h2 0 (by simp)).2, by simpa using h1, fun i hi => h2 (i + 1) (by simpa using hi)⟩
theorem slack_iff {L : Int → Int} : ∀ {l : List Ed} {F : List Int}, F.length = l.length → (slack L l F ↔ ∀ i, i < l.length → ((l.getD i edZ).c + L (l.getD i edZ).a - L (l.getD i edZ).b < 0 → (l.getD i edZ).hi ≤ F.getD i 0) ∧ (0 < (l.getD i edZ).c + L (l.getD i edZ).a - L (l.getD i edZ).b → F.getD i 0 ≤ (l.getD i edZ).lo))
  | [], [], _ => ⟨fun _ i hi => absurd hi (Nat.not_lt_zero i), fun _ => trivial⟩
  | [], _ :: _, h => by simp at h
  | _ :: _, [], h => by simp at h
  | e :: l, f :: F, h => by
    rw [slack, slack_iff (l := l) (by simpa using h)]
    constructor
    · rintro ⟨h1, h2, h3⟩ i hi
      rcases i with _ | i
      · exact ⟨h1, h2⟩
      · exact h3 i (by simpa using hi)
    · exact fun h => ⟨(h 0 (by simp)).1, (h 0 (by simp)).2, fun i hi => h (i + 1) (by simpa using hi)⟩
theorem bal_set (v y : Int) : ∀ {l : List Ed} {F : List Int} {i : Nat}, F.length = l.length → i < l.length → bal l (F.set i y) v = bal l F v + ((if (l.getD i edZ).b = v then y - F.getD i 0 else 0) - (if (l.getD i edZ).a = v then y - F.getD i 0 else 0))
  | [], _, i, _, hi => absurd hi (Nat.not_lt_zero i)
  | _ :: _, [], _, h, _ => by simp at h
  | e :: l, f :: F, 0, _, _ => by
    show bal (e :: l) (y :: F) v = bal (e :: l) (f :: F) v + ((if e.b = v then y - f else 0) - (if e.a = v then y - f else 0))
    rw [bal, bal]
    split <;> split <;> omega
  | e :: l, f :: F, i + 1, h, hi => by
    show bal (e :: l) (f :: F.set i y) v = bal (e :: l) (f :: F) v + ((if (l.getD i edZ).b = v then y - F.getD i 0 else 0) - (if (l.getD i edZ).a = v then y - F.getD i 0 else 0))
    rw [bal, bal, bal_set v y (by simpa using h) (by simpa using hi)]
    omega
theorem cost_set (y : Int) : ∀ {l : List Ed} {F : List Int} {i : Nat}, F.length = l.length → i < l.length → cost l (F.set i y) = cost l F + (y - F.getD i 0) * (l.getD i edZ).c
  | [], _, i, _, hi => absurd hi (Nat.not_lt_zero i)
  | _ :: _, [], _, h, _ => by simp at h
  | e :: l, f :: F, 0, _, _ => by
    show cost (e :: l) (y :: F) = cost (e :: l) (f :: F) + (y - f) * e.c
    rw [cost, cost, Int.sub_mul]
    omega
  | e :: l, f :: F, i + 1, h, hi => by
    show cost (e :: l) (f :: F.set i y) = cost (e :: l) (f :: F) + (y - F.getD i 0) * (l.getD i edZ).c
    rw [cost, cost, cost_set y (by simpa using h) (by simpa using hi)]
    omega
/-- The arc x: the edge x / 2, forward if x is even. -/
def aF (l : List Ed) (x : Nat) : Int := if x % 2 = 0 then (l.getD (x / 2) edZ).a else (l.getD (x / 2) edZ).b
def aT (l : List Ed) (x : Nat) : Int := if x % 2 = 0 then (l.getD (x / 2) edZ).b else (l.getD (x / 2) edZ).a
def aC (l : List Ed) (x : Nat) : Int := if x % 2 = 0 then (l.getD (x / 2) edZ).c else -(l.getD (x / 2) edZ).c
def aS (x : Nat) : Int := if x % 2 = 0 then 1 else -1
def aR (l : List Ed) (F : List Int) (x : Nat) : Int := if x % 2 = 0 then (l.getD (x / 2) edZ).hi - F.getD (x / 2) 0 else F.getD (x / 2) 0 - (l.getD (x / 2) edZ).lo
/-- The flow changed by d along an arc; along arcs. -/
def pu (d : Int) (F : List Int) (x : Nat) : List Int := F.set (x / 2) (F.getD (x / 2) 0 + aS x * d)
def pus (d : Int) (F : List Int) (P : List Nat) : List Int := P.foldl (pu d) F
theorem pu_len (d : Int) (F : List Int) (x : Nat) : (pu d F x).length = F.length := List.length_set
theorem pus_len (d : Int) : ∀ (P : List Nat) (F : List Int), (pus d F P).length = F.length
  | [], _ => rfl
  | x :: P, F => by rw [pus, List.foldl_cons]; exact (pus_len d P _).trans (pu_len d F x)
theorem bal_pu {l : List Ed} {F : List Int} (hl : F.length = l.length) {x : Nat} (hx : x / 2 < l.length) (d v : Int) : bal l (pu d F x) v = bal l F v + ((if aT l x = v then d else 0) - (if aF l x = v then d else 0)) := by
  rw [pu, bal_set v _ hl hx, aT, aF, aS]
  by_cases h : x % 2 = 0
  · simp only [if_pos h]
    rw [show F.getD (x / 2) 0 + 1 * d - F.getD (x / 2) 0 = d by omega]
  · simp only [if_neg h]
    rw [show F.getD (x / 2) 0 + -1 * d - F.getD (x / 2) 0 = -d by omega]
    split <;> split <;> omega
theorem cost_pu {l : List Ed} {F : List Int} (hl : F.length = l.length) {x : Nat} (hx : x / 2 < l.length) (d : Int) : cost l (pu d F x) = cost l F + d * aC l x := by
  rw [pu, cost_set _ hl hx, aC, aS]
  by_cases h : x % 2 = 0
  · simp only [if_pos h]
    rw [show F.getD (x / 2) 0 + 1 * d - F.getD (x / 2) 0 = d by omega]
  · simp only [if_neg h]
    rw [show F.getD (x / 2) 0 + -1 * d - F.getD (x / 2) 0 = -d by omega, Int.neg_mul, Int.mul_neg]
/-- Arcs that lead on, read back from v: the first one ends at v, .. -/
def chain (l : List Ed) : List Nat → Int → Int → Prop
  | [], v, u => v = u
  | x :: P, v, u => x / 2 < l.length ∧ aT l x = v ∧ chain l P (aF l x) u
def costP (l : List Ed) : List Nat → Int
  | [] => 0
  | x :: P => aC l x + costP l P
theorem bal_pus {l : List Ed} (d w : Int) : ∀ {P : List Nat} {F : List Int} {v u : Int}, F.length = l.length → chain l P v u → bal l (pus d F P) w = bal l F w + ((if v = w then d else 0) - (if u = w then d else 0))
  | [], F, v, u, _, h => by
    have h : v = u := h
    subst h
    show bal l F w = _
    split <;> omega
  | x :: P, F, v, u, hl, h => by
    obtain ⟨h1, h2, h3⟩ := h
    show bal l (pus d (pu d F x) P) w = _
    rw [bal_pus d w ((pu_len d F x).trans hl) h3, bal_pu hl h1, h2]
    split <;> split <;> split <;> omega
theorem cost_pus {l : List Ed} (d : Int) : ∀ {P : List Nat} {F : List Int}, F.length = l.length → (∀ x ∈ P, x / 2 < l.length) → cost l (pus d F P) = cost l F + d * costP l P
  | [], F, _, _ => by show cost l F = cost l F + d * 0; omega
  | x :: P, F, hl, h => by
    show cost l (pus d (pu d F x) P) = _
    rw [cost_pus d ((pu_len d F x).trans hl) (fun y hy => h y (by simp [hy])), cost_pu hl (h x (by simp)), costP, Int.mul_add]
    omega
theorem getD_set {F : List Int} {i j : Nat} {y : Int} : (F.set i y).getD j 0 = if i = j ∧ i < F.length then y else F.getD j 0 := by
  rw [List.getD_eq_getElem?_getD, List.getD_eq_getElem?_getD, List.getElem?_set]
  by_cases h : i = j
  · subst h
    by_cases h2 : i < F.length
    · simp [h2]
    · simp [h2]
  · simp [h]
/-- No edge stands twice in it: the flow of each edge changes by d at most once. -/
theorem pus_get (d : Int) : ∀ {P : List Nat} {F : List Int}, (∀ x ∈ P, x / 2 < F.length) → (P.map (· / 2)).Nodup → ∀ i, ((∀ x ∈ P, x / 2 ≠ i) ∧ (pus d F P).getD i 0 = F.getD i 0) ∨ ∃ x ∈ P, x / 2 = i ∧ (pus d F P).getD i 0 = F.getD i 0 + aS x * d
  | [], F, _, _, i => .inl ⟨fun x hx => by simp at hx, rfl⟩
  | x :: P, F, h, hn, i => by
    obtain ⟨hn1, hn2⟩ := List.nodup_cons.1 hn
    have hx := h x (by simp)
    have hp : pus d F (x :: P) = pus d (pu d F x) P := rfl
    rw [hp]
    rcases pus_get d (P := P) (F := pu d F x) (fun y hy => by rw [pu_len]; exact h y (by simp [hy])) hn2 i with ⟨g1, g2⟩ | ⟨y, g1, g2, g3⟩
    · rw [g2, pu, getD_set]
      by_cases hi : x / 2 = i
      · right
        exact ⟨x, by simp, hi, by rw [if_pos ⟨hi, hx⟩, hi]⟩
      · left
        exact ⟨fun y hy => by rcases List.mem_cons.1 hy with rfl | hy; exact hi; exact g1 y hy, by rw [if_neg (fun e => hi e.1)]⟩
    · right
      have hne : x / 2 ≠ i := fun e => hn1 (List.mem_map.2 ⟨y, g1, show y / 2 = x / 2 by omega⟩)
      exact ⟨y, by simp [g1], g2, by rw [g3, pu, getD_set, if_neg (fun e => hne e.1)]⟩
theorem inB_pus {l : List Ed} {F : List Int} {d : Int} {P : List Nat} (hF : inB l F) (hd : 0 ≤ d) (hP : ∀ x ∈ P, x / 2 < l.length ∧ d ≤ aR l F x) (hn : (P.map (· / 2)).Nodup) : inB l (pus d F P) := by
  obtain ⟨h1, h2⟩ := inB_iff.1 hF
  refine inB_iff.2 ⟨(pus_len d P F).trans h1, fun i hi => ?_⟩
  obtain ⟨b1, b2⟩ := h2 i hi
  rcases pus_get d (P := P) (F := F) (fun x hx => by rw [h1]; exact (hP x hx).1) hn i with ⟨_, g⟩ | ⟨x, hx, hxi, g⟩
  · rw [g]; exact ⟨b1, b2⟩
  · have hr := (hP x hx).2
    rw [g]
    rw [aR, hxi] at hr
    rw [aS]
    by_cases h : x % 2 = 0
    · rw [if_pos h] at hr ⊢; omega
    · rw [if_neg h] at hr ⊢; omega
end Go.Fl
