
/- Budgets: asks by the values of their fractions; plain. -/
import Derived.Test.YtkhlmicogdjmlaaPb
import Derived.Test.YtkhlmicogdjmlaaRy
set_option linter.unusedSimpArgs false
set_option linter.unusedVariables false
namespace Go.Bg
open Go.Rt Go.Lx
def vl (r : Rq) : Int := 72 * r.P / den r
theorem _root_.Go.Rt.Vk.vl {r : Rq} {v : Int} (h : Vk 72 r v) : vl r = v := by
  have hd := den_pos h.c
  unfold Bg.vl
  rw [h.e, Int.mul_ediv_cancel_left _ (by omega)]
/-- An account with small fractions, of which no more is used than its limit. -/
structure Av (a : Acc) : Prop where
  l : Vk 72 a.L (vl a.L)
  u : Vk 72 a.U (vl a.U)
  le : vl a.U ≤ vl a.L
  b : vl a.L ≤ 100000
structure BV (b : Bk) : Prop where
  a : ∀ i, i < b.A.length → Av (b.A.getD i accZ)
  o : ∀ i, i < b.O.length → Av (b.O.getD i accZ)
theorem set_getD {A : List Acc} {k i : Nat} {v : Acc} (hk : k < A.length) : (A.set k v).getD i accZ = if i = k then v else A.getD i accZ := by
  rw [List.getD_eq_getElem?_getD, List.getD_eq_getElem?_getD, List.getElem?_set]
  by_cases h : k = i
  · subst h; rw [if_pos rfl, if_pos hk, if_pos rfl]; rfl
  · rw [if_neg h, if_neg (fun e => h e.symm)]
theorem chg_all {c : Rq} : ∀ (l : List Int) (A : List Acc) (ov : Bool), l.Nodup → (∀ p ∈ l, 0 ≤ p ∧ p < A.length) → (∀ p ∈ l, acE (A.getD p.toNat accZ) c = 0) →
    (chg A ov c l).e = 0 ∧ (∀ i : Nat, (chg A ov c l).A.getD i accZ = if (i : Int) ∈ l then acV (A.getD i accZ) c else A.getD i accZ) ∧ ((chg A ov c l).ov = true ↔ ov = true ∨ ∃ p ∈ l, acO (A.getD p.toNat accZ) c = true) ∧ (chg A ov c l).A.length = A.length
  | [], A, ov, _, _, _ => ⟨rfl, fun i => (if_neg List.not_mem_nil).symm, ⟨fun h => .inl h, fun h => h.elim id fun ⟨p, hp, _⟩ => absurd hp List.not_mem_nil⟩, rfl⟩
  | p :: r, A, ov, hn, hl, he => by
    have hp := hl p List.mem_cons_self
    have hpe := he p List.mem_cons_self
    obtain ⟨hpr, hr⟩ := List.nodup_cons.1 hn
    have hg : ∀ q ∈ r, (A.set p.toNat (acV (A.getD p.toNat accZ) c)).getD q.toNat accZ = A.getD q.toNat accZ := fun q hq => by
      have h1 := hl q (List.mem_cons_of_mem _ hq)
      rw [set_getD (by omega), if_neg fun e => hpr (by rw [show p = q by omega]; exact hq)]
    obtain ⟨h1, h2, h3, h4⟩ := chg_all r (A.set p.toNat (acV (A.getD p.toNat accZ) c)) (ov || acO (A.getD p.toNat accZ) c) hr (fun q hq => by rw [List.length_set]; exact hl q (List.mem_cons_of_mem _ hq)) (fun q hq => by rw [hg q hq]; exact he q (List.mem_cons_of_mem _ hq))
    have hu : chg A ov c (p :: r) = chg (A.set p.toNat (acV (A.getD p.toNat accZ) c)) (ov || acO (A.getD p.toNat accZ) c) c r := by
      show (if acE (A.getD p.toNat accZ) c ≠ 0 then _ else _) = _
      rw [if_neg (fun h => h hpe)]
    rw [hu]
    refine ⟨h1, fun i => ?_, ?_, by rw [h4, List.length_set]⟩
    · rw [h2 i, set_getD (by omega)]
      by_cases hi : i = p.toNat
      · have e : (i : Int) = p := by omega
        rw [if_pos hi, e, if_neg hpr, if_pos List.mem_cons_self, hi]
      · have e : (i : Int) ≠ p := by omega
        rw [if_neg hi]
        by_cases hr2 : (i : Int) ∈ r
        · rw [if_pos hr2, if_pos (List.mem_cons_of_mem _ hr2)]
        · rw [if_neg hr2, if_neg (fun h => (List.mem_cons.1 h).elim e hr2)]
    · rw [h3, Bool.or_eq_true]
      constructor
      · rintro ((h | h) | ⟨q, hq, h⟩)
        · exact .inl h
        · exact .inr ⟨p, List.mem_cons_self, h⟩
        · rw [hg q hq] at h; exact .inr ⟨q, List.mem_cons_of_mem _ hq, h⟩
      · rintro (h | ⟨q, hq, h⟩)
        · exact .inl (.inl h)
        · rcases List.mem_cons.1 hq with rfl | hq
          · exact .inl (.inr h)
          · exact .inr ⟨q, hq, by rw [hg q hq]; exact h⟩
theorem chO_all {W l : List Int} {c : Rq} : ∀ (n o : Nat) (A : List Acc) (ov : Bool), o + n ≤ A.length → (∀ i, o ≤ i → i < o + n → cnt W l i ≠ 0 → shrE c (cnt W l i) l.length = 0 ∧ acE (A.getD i accZ) (shr c (cnt W l i) l.length) = 0) →
    (chO W l c o n A ov).e = 0 ∧ (∀ i : Nat, (chO W l c o n A ov).A.getD i accZ = if (o ≤ i ∧ i < o + n) ∧ cnt W l i ≠ 0 then acV (A.getD i accZ) (shr c (cnt W l i) l.length) else A.getD i accZ) ∧ ((chO W l c o n A ov).ov = true ↔ ov = true ∨ ∃ i, (o ≤ i ∧ i < o + n) ∧ cnt W l i ≠ 0 ∧ acO (A.getD i accZ) (shr c (cnt W l i) l.length) = true) ∧ (chO W l c o n A ov).A.length = A.length
  | 0, o, A, ov, _, _ => ⟨rfl, fun i => (if_neg (by omega)).symm, ⟨fun h => .inl h, fun h => h.elim id fun ⟨i, hi, _⟩ => absurd hi.1 (by omega)⟩, rfl⟩
  | n + 1, o, A, ov, hn, he => by
    by_cases h0 : cnt W l o = 0
    · obtain ⟨h1, h2, h3, h4⟩ := chO_all n (o + 1) A ov (by omega) (fun i a b k => he i (by omega) (by omega) k)
      have hu : chO W l c o (n + 1) A ov = chO W l c (o + 1) n A ov := if_pos h0
      rw [hu]
      refine ⟨h1, fun i => ?_, ?_, h4⟩
      · rw [h2 i]
        by_cases hi : (o + 1 ≤ i ∧ i < o + 1 + n) ∧ cnt W l i ≠ 0
        · rw [if_pos hi, if_pos ⟨by omega, hi.2⟩]
        · rw [if_neg hi, if_neg fun k => hi ⟨by
            have : i ≠ o := fun e => k.2 (e ▸ h0)
            omega, k.2⟩]
      · rw [h3]
        constructor
        · rintro (h | ⟨i, hi, h⟩)
          · exact .inl h
          · exact .inr ⟨i, by omega, h⟩
        · rintro (h | ⟨i, hi, h⟩)
          · exact .inl h
          · have : i ≠ o := fun e => h.1 (e ▸ h0)
            exact .inr ⟨i, by omega, h⟩
    · obtain ⟨e1, e2⟩ := he o (by omega) (by omega) h0
      have hg : ∀ i, o + 1 ≤ i → (A.set o (acV (A.getD o accZ) (shr c (cnt W l o) l.length))).getD i accZ = A.getD i accZ := fun i hi => by
        rw [set_getD (by omega), if_neg (by omega)]
      obtain ⟨h1, h2, h3, h4⟩ := chO_all n (o + 1) (A.set o (acV (A.getD o accZ) (shr c (cnt W l o) l.length))) (ov || acO (A.getD o accZ) (shr c (cnt W l o) l.length)) (by rw [List.length_set]; omega) (fun i a b k => by rw [hg i a]; exact he i (by omega) (by omega) k)
      have hu : chO W l c o (n + 1) A ov = chO W l c (o + 1) n (A.set o (acV (A.getD o accZ) (shr c (cnt W l o) l.length))) (ov || acO (A.getD o accZ) (shr c (cnt W l o) l.length)) := by
        show (if cnt W l o = 0 then _ else _) = _
        rw [if_neg h0, if_neg (fun h => h e1), if_neg (fun h => h e2)]
      rw [hu]
      refine ⟨h1, fun i => ?_, ?_, by rw [h4, List.length_set]⟩
      · rw [h2 i]
        by_cases hi : i = o
        · subst hi
          rw [if_neg (by omega), if_pos ⟨by omega, h0⟩, set_getD (by omega), if_pos rfl]
        · rw [set_getD (by omega), if_neg hi]
          by_cases hk : (o + 1 ≤ i ∧ i < o + 1 + n) ∧ cnt W l i ≠ 0
          · rw [if_pos hk, if_pos ⟨by omega, hk.2⟩]
          · rw [if_neg hk, if_neg fun k => hk ⟨by omega, k.2⟩]
      · rw [h3, Bool.or_eq_true]
        constructor
        · rintro ((h | h) | ⟨i, hi, k, h⟩)
          · exact .inl h
          · exact .inr ⟨o, by omega, h0, h⟩
          · rw [hg i hi.1] at h; exact .inr ⟨i, by omega, k, h⟩
        · rintro (h | ⟨i, hi, k, h⟩)
          · exact .inl (.inl h)
          · by_cases e : i = o
            · subst e; exact .inl (.inr h)
            · exact .inr ⟨i, by omega, k, by rw [hg i (by omega)]; exact h⟩
theorem kn_nodup {b : Bk} {l : List Int} (h : knE b l = 0) : l.Nodup := by
  refine List.pairwise_iff_getElem.2 fun i j hi hj hij e => ?_
  have hk := knL_all (show knL b l 0 l.length = 0 from h) j (by omega) (by omega)
  have hm : l.getD j 0 ∈ l.take j := by
    rw [List.getD_eq_getElem?_getD, List.getElem?_eq_getElem hj]
    show l[j] ∈ l.take j
    rw [← e]
    exact List.mem_take_iff_getElem.2 ⟨i, by omega, rfl⟩
  unfold kn at hk
  by_cases h1 : l.getD j 0 < 0 ∨ (b.A.length : Int) ≤ l.getD j 0
  · rw [if_pos h1] at hk; cases hk
  · rw [if_neg h1, if_pos hm] at hk; cases hk
theorem kn_congr {b b' : Bk} (hA : b'.A.length = b.A.length) (hR : b'.R = b.R) (l : List Int) : knE b' l = knE b l := by
  have h1 : ∀ bf p, kn b' bf p = kn b bf p := fun bf p => by unfold kn; rw [hA, hR]
  have h2 : ∀ n k, knL b' l k n = knL b l k n := fun n => by
    induction n with
    | zero => intro k; rfl
    | succ n ih => intro k; unfold knL; rw [h1, ih]
  exact h2 _ _
/-- What an ask adds to a person, and to an owner. -/
def pc (l : List Int) (w : Int) (i : Nat) : Int := if (i : Int) ∈ l then 6 * w else 0
def sh (W l : List Int) (w : Int) (i : Nat) : Int := (6 / (l.length : Int)) * w * (cnt W l i : Int)
theorem pc_nn (l : List Int) {w : Int} (hw : 0 ≤ w) (i : Nat) : 0 ≤ pc l w i := by unfold pc; split <;> omega
theorem sh_nn (W l : List Int) {w : Int} (hw : 0 ≤ w) (i : Nat) : 0 ≤ sh W l w i :=
  Int.mul_nonneg (Int.mul_nonneg (Int.ediv_nonneg (by omega) (by omega)) hw) (by omega)
theorem shr_val {c : Rq} {w : Int} {k n : Nat} (hc : Vk 12 c w) (hw : w ≤ 1000) (h1 : 0 < k) (h2 : k ≤ n) (h3 : n ≤ 3) : shrE c k n = 0 ∧ Vk 72 (shr c k n) ((6 / (n : Int)) * w * k) ∧ 1 ≤ (shr c k n).Q := by
  have hw0 := hc.n
  obtain ⟨m, hm⟩ := Int.eq_ofNat_of_zero_le (a := (6 / (n : Int)) * w * k) (Int.mul_nonneg (Int.mul_nonneg (Int.ediv_nonneg (by omega) (by omega)) hw0) (by omega))
  have hn6 : (n : Int) * (6 / (n : Int)) = 6 := by
    rcases (by omega : n = 1 ∨ n = 2 ∨ n = 3) with rfl | rfl | rfl <;> decide
  have hs := hc.scale (m := 6) (by decide)
  have he : 6 * w * k = n * (m : Int) := by
    rw [← hm, ← Int.mul_assoc, ← Int.mul_assoc, hn6]
  have hb : (m : Int) ≤ 1000000 := by
    have h4 : (m : Int) * 1 ≤ m * n := Int.mul_le_mul_of_nonneg_left (by omega) (by omega)
    have h5 : (6 * w) * (k : Int) ≤ (6 * w) * 3 := Int.mul_le_mul_of_nonneg_left (by omega) (by omega)
    rw [he, Int.mul_comm] at h5
    omega
  have := mul_val (K := 72) ⟨by decide, by decide⟩ hs h1 h2 (by omega) he hb
  rw [hm]
  exact this
theorem ac_val {a : Acc} {c : Rq} {v : Int} (ha : Av a) (hc : Vk 72 c v) (hv : v ≤ 100000) : acE a c = 0 ∧ Vk 72 (acV a c).U (vl a.U + v) ∧ 1 ≤ (acV a c).U.Q ∧ (acO a c = true ↔ vl a.L < vl a.U + v) := by
  obtain ⟨h1, h2, h3⟩ := add_val (K := 72) ⟨by decide, by decide⟩ ha.u hc (by have := ha.le; have := ha.b; omega)
  refine ⟨h1, h2, h3, ?_⟩
  unfold acO
  rw [decide_eq_true_eq, cmp_val (by decide) h2 ha.l]
  by_cases e : vl a.U + v = vl a.L
  · rw [if_pos e]; constructor <;> intro h <;> omega
  · rw [if_neg e]
    by_cases e2 : vl a.U + v < vl a.L
    · rw [if_pos e2]; constructor <;> intro h <;> omega
    · rw [if_neg e2]; constructor <;> intro h <;> omega
theorem sh_le {W l : List Int} {w : Int} (hw : 0 ≤ w ∧ w ≤ 1000) (hl : l.length ≤ 3) (i : Nat) : sh W l w i ≤ 18000 := by
  have h1 := cnt_le W l i
  have h2 : (6 / (l.length : Int)) ≤ 6 := Int.ediv_le_self _ (by decide)
  have h0 : 0 ≤ (6 / (l.length : Int)) := Int.ediv_nonneg (by omega) (by omega)
  have h3 : (6 / (l.length : Int)) * w ≤ 6 * 1000 := Int.mul_le_mul h2 hw.2 hw.1 (by decide)
  have h4 : (6 / (l.length : Int)) * w * (cnt W l i : Int) ≤ 6 * 1000 * 3 := Int.mul_le_mul h3 (by omega) (by omega) (by decide)
  exact h4
section
variable {b : Bk} {l : List Int} {c : Rq} {w : Int}
theorem ask_parts (hv : BV b) (hl : l.length ≤ 3) (hc : Vk 12 c w) (hw : w ≤ 1000) (hk : knE b l = 0) :
    ((askP b l c).e = 0 ∧ (∀ i : Nat, (askP b l c).A.getD i accZ = if (i : Int) ∈ l then acV (b.A.getD i accZ) c else b.A.getD i accZ) ∧ ((askP b l c).ov = true ↔ ∃ i, i < b.A.length ∧ vl (b.A.getD i accZ).L < vl (b.A.getD i accZ).U + pc l w i) ∧ (askP b l c).A.length = b.A.length) ∧
    ((askO b l c).e = 0 ∧ (∀ i : Nat, (askO b l c).A.getD i accZ = if i < b.O.length ∧ cnt b.W l i ≠ 0 then acV (b.O.getD i accZ) (shr c (cnt b.W l i) l.length) else b.O.getD i accZ) ∧ ((askO b l c).ov = true ↔ (askP b l c).ov = true ∨ ∃ i, i < b.O.length ∧ vl (b.O.getD i accZ).L < vl (b.O.getD i accZ).U + sh b.W l w i) ∧ (askO b l c).A.length = b.O.length) := by
  have hw0 := hc.n
  have hc72 := hc.scale (m := 6) (by decide)
  have hr := kn_range hk
  have hac : ∀ i, i < b.A.length → _ := fun i hi => ac_val (hv.a i hi) (show Vk 72 c (6 * w) from hc72) (by omega)
  obtain ⟨p1, p2, p3, p4⟩ := chg_all (c := c) l b.A false (kn_nodup hk) hr (fun p hp => by have := hr p hp; exact (hac p.toNat (by omega)).1)
  have hso : ∀ i, i < b.O.length → cnt b.W l i ≠ 0 → shrE c (cnt b.W l i) l.length = 0 ∧ Vk 72 (shr c (cnt b.W l i) l.length) (sh b.W l w i) := fun i hi h0 => by
    have := shr_val (k := cnt b.W l i) (n := l.length) hc hw (by omega) (cnt_le _ _ _) hl
    exact ⟨this.1, this.2.1⟩
  have hao : ∀ i, i < b.O.length → cnt b.W l i ≠ 0 → _ := fun i hi h0 => ac_val (hv.o i hi) (hso i hi h0).2 (by have := sh_le (W := b.W) ⟨hw0, hw⟩ hl i; omega)
  obtain ⟨o1, o2, o3, o4⟩ := chO_all (W := b.W) (l := l) (c := c) b.O.length 0 b.O (askP b l c).ov (by omega) (fun i _ hi h0 => ⟨(hso i (by omega) h0).1, (hao i (by omega) h0).1⟩)
  refine ⟨⟨p1, p2, ?_, p4⟩, o1, fun i => ?_, ?_, o4⟩
  · show (chg b.A false c l).ov = true ↔ _
    rw [p3]
    constructor
    · rintro (h | ⟨p, hp, h⟩)
      · cases h
      · have hpr := hr p hp
        refine ⟨p.toNat, by omega, ?_⟩
        have := (hac p.toNat (by omega)).2.2.2.1 h
        unfold pc
        rw [if_pos (by rw [Int.toNat_of_nonneg hpr.1]; exact hp)]
        exact this
    · rintro ⟨i, hi, h⟩
      have hle := (hv.a i hi).le
      unfold pc at h
      by_cases hm : (i : Int) ∈ l
      · rw [if_pos hm] at h
        exact .inr ⟨i, hm, (hac i hi).2.2.2.2 h⟩
      · rw [if_neg hm] at h; omega
  · show (chO b.W l c 0 b.O.length b.O (askP b l c).ov).A.getD i accZ = _
    rw [o2 i]
    by_cases h : i < b.O.length ∧ cnt b.W l i ≠ 0
    · rw [if_pos h, if_pos ⟨by omega, h.2⟩]
    · rw [if_neg h, if_neg fun k => h ⟨by omega, k.2⟩]
  · show (chO b.W l c 0 b.O.length b.O (askP b l c).ov).ov = true ↔ _
    rw [o3]
    constructor
    · rintro (h | ⟨i, hi, h0, h⟩)
      · exact .inl h
      · exact .inr ⟨i, by omega, (hao i (by omega) h0).2.2.2.1 h⟩
    · rintro (h | ⟨i, hi, h⟩)
      · exact .inl h
      · by_cases h0 : cnt b.W l i = 0
        · have hle := (hv.o i hi).le
          unfold sh at h
          rw [h0, Int.ofNat_zero, Int.mul_zero] at h
          omega
        · exact .inr ⟨i, by omega, h0, (hao i hi h0).2.2.2.2 h⟩
/-- When an ask is possible. -/
theorem ask_iff (hv : BV b) (hl : l.length ≤ 3) (hc : Vk 12 c w) (hw : w ≤ 1000) : askE b l c = 0 ↔ l ≠ [] ∧ knE b l = 0 ∧ (∀ i, i < b.A.length → vl (b.A.getD i accZ).U + pc l w i ≤ vl (b.A.getD i accZ).L) ∧ ∀ i, i < b.O.length → vl (b.O.getD i accZ).U + sh b.W l w i ≤ vl (b.O.getD i accZ).L := by
  have hcost : isCost c = true := cost_iff.2 ⟨hc.c, hc.p (by decide)⟩
  constructor
  · intro h
    obtain ⟨h1, _, h3, _, _, h6⟩ := ask_zero h
    obtain ⟨⟨_, _, p3, _⟩, _, _, o3, _⟩ := ask_parts hv hl hc hw h3
    refine ⟨h1, h3, fun i hi => ?_, fun i hi => ?_⟩
    · refine Int.not_lt.1 fun k => ?_
      rw [o3.2 (.inl (p3.2 ⟨i, hi, k⟩))] at h6; cases h6
    · refine Int.not_lt.1 fun k => ?_
      rw [o3.2 (.inr ⟨i, hi, k⟩)] at h6; cases h6
  · rintro ⟨h1, h2, h3, h4⟩
    obtain ⟨⟨p1, _, p3, _⟩, o1, _, o3, _⟩ := ask_parts hv hl hc hw h2
    rw [ask_end (fun k => k.elim h1 fun k => by rw [hcost] at k; cases k) h2 p1 o1, if_neg]
    intro h
    rcases o3.1 h with h | ⟨i, hi, h⟩
    · obtain ⟨i, hi, h⟩ := p3.1 h
      have := h3 i hi; omega
    · have := h4 i hi; omega
/-- What a possible ask leads to. -/
structure Asked (b b' : Bk) (l : List Int) (c : Rq) (w : Int) : Prop where
  v : BV b'
  na : b'.A.length = b.A.length
  no : b'.O.length = b.O.length
  W : b'.W = b.W
  R : b'.R = b.R
  a : ∀ i, b'.A.getD i accZ = if (i : Int) ∈ l then acV (b.A.getD i accZ) c else b.A.getD i accZ
  o : ∀ i, b'.O.getD i accZ = if i < b.O.length ∧ cnt b.W l i ≠ 0 then acV (b.O.getD i accZ) (shr c (cnt b.W l i) l.length) else b.O.getD i accZ
  la : ∀ i, (b'.A.getD i accZ).L = (b.A.getD i accZ).L
  lo : ∀ i, (b'.O.getD i accZ).L = (b.O.getD i accZ).L
  ua : ∀ i, i < b.A.length → vl (b'.A.getD i accZ).U = vl (b.A.getD i accZ).U + pc l w i
  uo : ∀ i, i < b.O.length → vl (b'.O.getD i accZ).U = vl (b.O.getD i accZ).U + sh b.W l w i
  qa : ∀ i : Nat, i < b.A.length → (i : Int) ∈ l → 1 ≤ (b'.A.getD i accZ).U.Q
  qo : ∀ i, i < b.O.length → cnt b.W l i ≠ 0 → 1 ≤ (b'.O.getD i accZ).U.Q
theorem asked (hv : BV b) (hl : l.length ≤ 3) (hc : Vk 12 c w) (hw : w ≤ 1000) (h : askE b l c = 0) : Asked b (askB b l c) l c w := by
  have hw0 := hc.n
  have hc72 := hc.scale (m := 6) (by decide)
  obtain ⟨h1, h2, h3, h4⟩ := (ask_iff hv hl hc hw).1 h
  obtain ⟨⟨p1, p2, p3, p4⟩, o1, o2, o3, o4⟩ := ask_parts hv hl hc hw h2
  have hB : askB b l c = ⟨(askP b l c).A, (askO b l c).A, b.W, b.R⟩ := if_pos h
  rw [hB]
  have hac : ∀ i, i < b.A.length → _ := fun i hi => ac_val (hv.a i hi) (show Vk 72 c (6 * w) from hc72) (by omega)
  have hao : ∀ i, i < b.O.length → cnt b.W l i ≠ 0 → _ := fun i hi h0 => ac_val (hv.o i hi) (shr_val (k := cnt b.W l i) (n := l.length) hc hw (by omega) (cnt_le _ _ _) hl).2.1 (by have := sh_le (W := b.W) ⟨hw0, hw⟩ hl i; unfold sh at this; omega)
  have la : ∀ i, ((askP b l c).A.getD i accZ).L = (b.A.getD i accZ).L := fun i => by rw [p2 i]; split <;> rfl
  have lo : ∀ i, ((askO b l c).A.getD i accZ).L = (b.O.getD i accZ).L := fun i => by rw [o2 i]; split <;> rfl
  have va : ∀ i, i < b.A.length → Vk 72 ((askP b l c).A.getD i accZ).U (vl (b.A.getD i accZ).U + pc l w i) := fun i hi => by
    rw [p2 i]; unfold pc
    by_cases hm : (i : Int) ∈ l
    · rw [if_pos hm, if_pos hm]; exact (hac i hi).2.1
    · rw [if_neg hm, if_neg hm, Int.add_zero]; exact (hv.a i hi).u
  have vo : ∀ i, i < b.O.length → Vk 72 ((askO b l c).A.getD i accZ).U (vl (b.O.getD i accZ).U + sh b.W l w i) := fun i hi => by
    rw [o2 i]
    by_cases hm : cnt b.W l i ≠ 0
    · rw [if_pos ⟨hi, hm⟩]; exact (hao i hi hm).2.1
    · have e : cnt b.W l i = 0 := Decidable.byContradiction hm
      rw [if_neg fun k => hm k.2]
      unfold sh
      rw [e, Int.ofNat_zero, Int.mul_zero, Int.add_zero]; exact (hv.o i hi).u
  refine ⟨⟨fun i hi => ?_, fun i hi => ?_⟩, p4, o4, rfl, rfl, p2, o2, la, lo, fun i hi => (va i hi).vl, fun i hi => (vo i hi).vl, fun i hi hm => ?_, fun i hi hm => ?_⟩
  · change i < (askP b l c).A.length at hi
    rw [p4] at hi
    have hA := hv.a i hi
    refine ⟨?_, ?_, ?_, ?_⟩
    · show Vk 72 ((askP b l c).A.getD i accZ).L _
      rw [la i]; exact hA.l
    · show Vk 72 ((askP b l c).A.getD i accZ).U (vl ((askP b l c).A.getD i accZ).U)
      rw [(va i hi).vl]; exact va i hi
    · show vl ((askP b l c).A.getD i accZ).U ≤ vl ((askP b l c).A.getD i accZ).L
      rw [(va i hi).vl, la i]; exact h3 i hi
    · show vl ((askP b l c).A.getD i accZ).L ≤ _
      rw [la i]; exact hA.b
  · change i < (askO b l c).A.length at hi
    rw [o4] at hi
    have hA := hv.o i hi
    refine ⟨?_, ?_, ?_, ?_⟩
    · show Vk 72 ((askO b l c).A.getD i accZ).L _
      rw [lo i]; exact hA.l
    · show Vk 72 ((askO b l c).A.getD i accZ).U (vl ((askO b l c).A.getD i accZ).U)
      rw [(vo i hi).vl]; exact vo i hi
    · show vl ((askO b l c).A.getD i accZ).U ≤ vl ((askO b l c).A.getD i accZ).L
      rw [(vo i hi).vl, lo i]; exact h4 i hi
    · show vl ((askO b l c).A.getD i accZ).L ≤ _
      rw [lo i]; exact hA.b
  · show 1 ≤ ((askP b l c).A.getD i accZ).U.Q
    rw [p2 i, if_pos hm]; exact (hac i hi).2.2.1
  · show 1 ≤ ((askO b l c).A.getD i accZ).U.Q
    rw [o2 i, if_pos ⟨hi, hm⟩]; exact (hao i hi hm).2.2.1
end
end Go.Bg
