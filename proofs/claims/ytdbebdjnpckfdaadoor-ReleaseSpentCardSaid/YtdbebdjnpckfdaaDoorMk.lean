/- What persons have spent when a table is asked about again and again; plain. -/
import Derived.Test.YtdbebdjnpckfdaaDoorMe
import Derived.Test.YtdbebdjnpckfdaaDoorPc
set_option linter.unusedSimpArgs false
set_option linter.unusedVariables false
namespace Go.Rl
open Go.V Go.Lx Go.Rt Go.Bg
/-- After j asks of the same n persons: s has what each one of forty has spent. -/
structure SV (n : Nat) (l : List Int) (b : Bk) (s : List Int) (j : Nat) : Prop where
  na : b.A.length = 40
  no : b.O.length = 3
  R : ∀ i, b.R.getD i false = false
  sl : s.length = 40
  L : ∀ i, i < 40 → (b.A.getD i accZ).L = (lmP l 40).getD i rz
  u : ∀ i, i < 40 → Vk 1 (b.A.getD i accZ).U (s.getD i 0)
  le : ∀ i, i < 40 → s.getD i 0 ≤ ((lmP l 40).getD i rz).P
  ou : ∀ o, o < 3 → ∃ v, Vk n (b.O.getD o accZ).U v ∧ v ≤ 120 * (j : Int)
theorem vk_one {p : Int} (h : 0 ≤ p ∧ p ≤ 1000) : Vk 1 ⟨p, 1⟩ p := ⟨(cost_iff.1 (cost_one h)).1, h.1, by
  show 1 * p = (if (1 : Int) = 0 then 1 else 1) * p
  rw [if_neg (by decide)]⟩
theorem lmP_get {l : List Int} {i : Nat} (h : i < 40) : ∃ p : Int, 3 ≤ p ∧ p ≤ 31 ∧ (lmP l 40).getD i rz = ⟨p, 1⟩ := lm_P (k := 40) (getD_mem (by rw [lmP_len]; exact h))
theorem accs_get {l : List Rq} {i : Nat} (h : i < l.length) : (accs l).getD i accZ = ⟨l.getD i rz, rz⟩ := by
  unfold accs
  rw [List.getD_eq_getElem?_getD, List.getElem?_map, List.getD_eq_getElem?_getD, List.getElem?_eq_getElem h]; rfl
theorem sv_new (n : Nat) (l : List Int) : SV n l (lmB l) (List.replicate 40 0) 0 := by
  have h0 : ∀ i, (List.replicate 40 (0 : Int)).getD i 0 = 0 := fun i => by
    rw [List.getD_eq_getElem?_getD, List.getElem?_replicate]; split <;> rfl
  refine ⟨by show (accs (lmP l 40)).length = 40; rw [accs_len, lmP_len], by show (accs (lmO l 3)).length = 3; rw [accs_len, lmO_len], fun i => ?_, List.length_replicate, fun i hi => ?_, fun i hi => ?_, fun i hi => ?_, fun o ho => ⟨0, ?_, by omega⟩⟩
  · show (List.replicate (lmP l 40).length false).getD i false = false
    rw [List.getD_eq_getElem?_getD, List.getElem?_replicate]; split <;> rfl
  · show ((accs (lmP l 40)).getD i accZ).L = _
    rw [accs_get (by rw [lmP_len]; exact hi)]
  · show Vk 1 ((accs (lmP l 40)).getD i accZ).U _
    rw [accs_get (by rw [lmP_len]; exact hi), h0]; exact Vk.zero 1
  · obtain ⟨p, h1, h2, h3⟩ := lmP_get (l := l) hi
    rw [h0, h3]; show 0 ≤ p; omega
  · show Vk n ((accs (lmO l 3)).getD o accZ).U 0
    rw [accs_get (by rw [lmO_len]; exact ho)]; exact Vk.zero _
theorem kn_fine {b : Bk} {P : List Int} (hn : P.Nodup) (hr : ∀ p ∈ P, 0 ≤ p ∧ p < b.A.length) (hR : ∀ i, b.R.getD i false = false) : knE b P = 0 := by
  have h : ∀ n k, k + n ≤ P.length → knL b P k n = 0 := fun n => by
    induction n with
    | zero => intro k _; rfl
    | succ n ih =>
      intro k hk
      have hm := getD_mem (d := 0) (l := P) (k := k) (by omega)
      have hz : kn b (P.take k) (P.getD k 0) = 0 := by
        have h1 := hr _ hm
        unfold kn
        rw [if_neg (by omega), if_neg, if_neg (by rw [hR]; simp)]
        intro h2
        obtain ⟨i, hi, e⟩ := List.mem_take_iff_getElem.1 h2
        have hik : i < k := by omega
        have e2 : P.getD k 0 = P[k]'(by omega) := by rw [List.getD_eq_getElem?_getD, List.getElem?_eq_getElem (by omega)]; rfl
        rw [e2] at e
        exact (List.pairwise_iff_getElem.1 hn i k (by omega) (by omega) hik) e
      unfold knL
      rw [if_neg (by rw [hz]; simp)]
      exact ih (k + 1) (by omega)
  exact h P.length 0 (by omega)
theorem sv_step {n j : Nat} {l : List Int} {b : Bk} {s s' : List Int} (h : SV n l b s j) (hj : j < 100) {P : List Int} (hn : P.Nodup) (hr : ∀ p ∈ P, 0 ≤ p ∧ p < 40) (hl : P.length = n) (h1 : 1 ≤ n ∧ n ≤ 10) {c : Int} (hc : 1 ≤ c ∧ c ≤ 12)
    (hs : s'.length = 40) (hs' : ∀ i, i < 40 → s'.getD i 0 = s.getD i 0 + if (i : Int) ∈ P then c else 0) : (askE b P ⟨c, 1⟩ = 0 ∧ SV n l (askB b P ⟨c, 1⟩) s' (j + 1)) ∨ askE b P ⟨c, 1⟩ = 22 := by
  have hna := h.na
  have hno := h.no
  have hk := kn_fine hn (fun p hp => by rw [hna]; exact hr p hp) h.R
  have hcost : isCost ⟨c, 1⟩ = true := cost_one (by omega)
  have v1 := vk_one (p := c) (by omega)
  have hP0 : P ≠ [] := fun e => by rw [e] at hl; simp at hl; omega
  have hac : ∀ i, i < 40 → acE (b.A.getD i accZ) ⟨c, 1⟩ = 0 ∧ Vk 1 (acV (b.A.getD i accZ) ⟨c, 1⟩).U (s.getD i 0 + c) := fun i hi => by
    obtain ⟨p, p1, p2, p3⟩ := lmP_get (l := l) hi
    have hle := h.le i hi
    rw [p3] at hle
    have hle : s.getD i 0 ≤ p := hle
    obtain ⟨q1, q2, _⟩ := add_val (K := 1) ⟨by decide, by decide⟩ (h.u i hi) v1 (by omega)
    exact ⟨q1, q2⟩
  have hsh : ∀ o, o < 3 → Bg.cnt b.W P o ≠ 0 → shrE ⟨c, 1⟩ (Bg.cnt b.W P o) P.length = 0 ∧ Vk n (shr ⟨c, 1⟩ (Bg.cnt b.W P o) P.length) (c * (Bg.cnt b.W P o : Int)) := fun o ho h0 => by
    have hcl := Bg.cnt_le b.W P o
    have vn : Vk n ⟨c, 1⟩ (n * c) := by
      have := v1.scale (m := (n : Int)) (by omega)
      rwa [Int.mul_one] at this
    obtain ⟨m, hm⟩ := Int.eq_ofNat_of_zero_le (a := c * (Bg.cnt b.W P o : Int)) (Int.mul_nonneg (by omega) (by omega))
    have hb : c * (Bg.cnt b.W P o : Int) ≤ 12 * 10 := Int.mul_le_mul hc.2 (by omega) (by omega) (by decide)
    have := mul_val (K := (n : Int)) (c := ⟨c, 1⟩) (w := n * c) (k := Bg.cnt b.W P o) (n := P.length) (m := m) ⟨by omega, by omega⟩ vn (by omega) hcl (by omega) (by rw [hl, ← hm, Int.mul_assoc]) (by omega)
    rw [hm]
    exact ⟨this.1, this.2.1⟩
  have hao : ∀ o, o < 3 → Bg.cnt b.W P o ≠ 0 → acE (b.O.getD o accZ) (shr ⟨c, 1⟩ (Bg.cnt b.W P o) P.length) = 0 ∧ ∃ v, Vk n (acV (b.O.getD o accZ) (shr ⟨c, 1⟩ (Bg.cnt b.W P o) P.length)).U v ∧ v ≤ 120 * ((j + 1 : Nat) : Int) := fun o ho h0 => by
    obtain ⟨v, q1, q2⟩ := h.ou o ho
    have hcl := Bg.cnt_le b.W P o
    have hb : c * (Bg.cnt b.W P o : Int) ≤ 12 * 10 := Int.mul_le_mul hc.2 (by omega) (by omega) (by decide)
    obtain ⟨a1, a2, _⟩ := add_val (K := (n : Int)) ⟨by omega, by omega⟩ q1 (hsh o ho h0).2 (by omega)
    exact ⟨a1, _, a2, by omega⟩
  obtain ⟨p1, p2, p3, p4⟩ := chg_all (c := ⟨c, 1⟩) P b.A false hn (fun p hp => by rw [hna]; exact hr p hp) (fun p hp => by have := hr p hp; exact (hac p.toNat (by omega)).1)
  obtain ⟨o1, o2, o3, o4⟩ := chO_all (W := b.W) (l := P) (c := ⟨c, 1⟩) b.O.length 0 b.O (askP b P ⟨c, 1⟩).ov (by omega) (fun i _ hi h0 => ⟨(hsh i (by omega) h0).1, (hao i (by omega) h0).1⟩)
  have hend := ask_end (b := b) (l := P) (c := ⟨c, 1⟩) (fun k => k.elim hP0 fun k => by rw [hcost] at k; cases k) hk p1 o1
  by_cases hov : (askO b P ⟨c, 1⟩).ov = true
  · rw [if_pos hov] at hend
    exact .inr hend
  · rw [if_neg hov] at hend
    refine .inl ⟨hend, ?_⟩
    have hB : askB b P ⟨c, 1⟩ = ⟨(askP b P ⟨c, 1⟩).A, (askO b P ⟨c, 1⟩).A, b.W, b.R⟩ := if_pos hend
    rw [hB]
    have p2 : ∀ i : Nat, (askP b P ⟨c, 1⟩).A.getD i accZ = if (i : Int) ∈ P then acV (b.A.getD i accZ) ⟨c, 1⟩ else b.A.getD i accZ := p2
    have o2 : ∀ i : Nat, (askO b P ⟨c, 1⟩).A.getD i accZ = if (0 ≤ i ∧ i < 0 + b.O.length) ∧ Bg.cnt b.W P i ≠ 0 then acV (b.O.getD i accZ) (shr ⟨c, 1⟩ (Bg.cnt b.W P i) P.length) else b.O.getD i accZ := o2
    refine ⟨p4.trans hna, o4.trans hno, h.R, hs, fun i hi => ?_, fun i hi => ?_, fun i hi => ?_, fun o ho => ?_⟩
    · show ((askP b P ⟨c, 1⟩).A.getD i accZ).L = _
      rw [p2 i, ← h.L i hi]; split <;> rfl
    · show Vk 1 ((askP b P ⟨c, 1⟩).A.getD i accZ).U _
      rw [p2 i, hs' i hi]
      by_cases hm : (i : Int) ∈ P
      · rw [if_pos hm, if_pos hm]; exact (hac i hi).2
      · rw [if_neg hm, if_neg hm, Int.add_zero]; exact h.u i hi
    · rw [hs' i hi]
      by_cases hm : (i : Int) ∈ P
      · rw [if_pos hm]
        have hnov : ¬ acO (b.A.getD i accZ) ⟨c, 1⟩ = true := fun ha => hov (o3.2 (.inl (p3.2 (.inr ⟨(i : Int), hm, by rw [Int.toNat_natCast]; exact ha⟩))))
        obtain ⟨p, g1, g2, g3⟩ := lmP_get (l := l) hi
        unfold acO at hnov
        rw [decide_eq_true_eq, h.L i hi, g3, show addV (b.A.getD i accZ).U ⟨c, 1⟩ = (acV (b.A.getD i accZ) ⟨c, 1⟩).U from rfl, cmp_val (K := 1) (by decide) (hac i hi).2 (vk_one (p := p) (by omega))] at hnov
        rw [g3]
        show s.getD i 0 + c ≤ p
        by_cases e : s.getD i 0 + c = p
        · omega
        · rw [if_neg e] at hnov
          by_cases e2 : s.getD i 0 + c < p
          · omega
          · rw [if_neg e2] at hnov; exact absurd (by decide) hnov
      · rw [if_neg hm, Int.add_zero]; exact h.le i hi
    · show ∃ v, Vk n ((askO b P ⟨c, 1⟩).A.getD o accZ).U v ∧ _
      rw [o2 o]
      by_cases hm : (0 ≤ o ∧ o < 0 + b.O.length) ∧ Bg.cnt b.W P o ≠ 0
      · rw [if_pos hm]; exact (hao o ho hm.2).2
      · rw [if_neg hm]
        obtain ⟨v, q1, q2⟩ := h.ou o ho
        exact ⟨v, q1, by omega⟩
/-- What is added row by row. -/
def rowS (R : List Row) (c : Int) (s : List Int) : Nat → List Int
  | 0 => s
  | k + 1 => (rowS R c s k).set (R.getD k rowZ).p.toNat ((rowS R c s k).getD (R.getD k rowZ).p.toNat 0 + c)
theorem rowS_len (R : List Row) (c : Int) (s : List Int) : ∀ k, (rowS R c s k).length = s.length
  | 0 => rfl
  | k + 1 => by rw [rowS, List.length_set, rowS_len R c s k]
theorem rowS_get {R : List Row} {c : Int} {s : List Int} (hs : s.length = 40) (hn : (ps R).Nodup) (hp : ∀ k, k < R.length → 0 ≤ (R.getD k rowZ).p ∧ (R.getD k rowZ).p < 40) (i : Nat) : ∀ k, k ≤ R.length → (rowS R c s k).getD i 0 = s.getD i 0 + if ∃ m, m < k ∧ (R.getD m rowZ).p = (i : Int) then c else 0
  | 0, _ => by rw [rowS, if_neg (by rintro ⟨m, hm, _⟩; omega), Int.add_zero]
  | k + 1, hk => by
    have ih := rowS_get (c := c) hs hn hp i k (by omega)
    have hpk := hp k (by omega)
    rw [rowS]
    by_cases e : i = (R.getD k rowZ).p.toNat
    · have e2 : (R.getD k rowZ).p = (i : Int) := by omega
      rw [← e, set_get (by rw [rowS_len, hs]; omega), ih, if_neg, if_pos ⟨k, by omega, e2⟩, Int.add_zero]
      rintro ⟨m, hm, hme⟩
      have := nodup_dis.1 hn m k hm (by rw [ps_len]; omega)
      rw [ps_get, ps_get, hme, e2] at this
      exact this rfl
    · rw [set_ne e, ih]
      congr 1
      by_cases hx : ∃ m, m < k ∧ (R.getD m rowZ).p = (i : Int)
      · obtain ⟨m, hm, hme⟩ := hx
        rw [if_pos ⟨m, hm, hme⟩, if_pos ⟨m, by omega, hme⟩]
      · rw [if_neg hx, if_neg]
        rintro ⟨m, hm, hme⟩
        by_cases e3 : m = k
        · subst e3; omega
        · exact hx ⟨m, by omega, hme⟩
end Go.Rl
