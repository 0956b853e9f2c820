
/- Budgets: what all owners together owe; plain. -/
import Derived.Test.YtkhlmicogdjmlaaPg
set_option linter.unusedSimpArgs false
set_option linter.unusedVariables false
namespace Go.Bg
open Go.Rt Go.Lx
def sumO (b : Bk) : Nat → Int
  | 0 => 0
  | n + 1 => sumO b n + vl (b.O.getD n accZ).U
def cntTo (W l : List Int) : Nat → Nat
  | 0 => 0
  | n + 1 => cntTo W l n + cnt W l n
theorem cnt_cons (W : List Int) (p : Int) (r : List Int) (o : Nat) : cnt W (p :: r) o = cnt W r o + if W.getD p.toNat 0 = (o : Int) then 1 else 0 := by
  unfold cnt
  by_cases h : W.getD p.toNat 0 = (o : Int)
  · rw [if_pos h, List.filter_cons_of_pos (by simpa using h)]; rfl
  · rw [if_neg h, List.filter_cons_of_neg (by simpa using h)]; rfl
theorem cntTo_cons (W : List Int) (p : Int) (r : List Int) : ∀ n, cntTo W (p :: r) n = cntTo W r n + if 0 ≤ W.getD p.toNat 0 ∧ W.getD p.toNat 0 < (n : Int) then 1 else 0
  | 0 => by rw [if_neg (by omega)]; rfl
  | n + 1 => by
    show cntTo W (p :: r) n + cnt W (p :: r) n = cntTo W r n + cnt W r n + _
    rw [cntTo_cons W p r n, cnt_cons]
    by_cases h1 : W.getD p.toNat 0 = (n : Int)
    · rw [if_pos h1, if_neg (by omega), if_pos (by omega)]; omega
    · rw [if_neg h1]
      by_cases h2 : 0 ≤ W.getD p.toNat 0 ∧ W.getD p.toNat 0 < (n : Int)
      · rw [if_pos h2, if_pos (by omega)]; omega
      · rw [if_neg h2, if_neg (by omega)]; omega
theorem cntTo_all {W : List Int} {n : Nat} : ∀ {l : List Int}, (∀ p ∈ l, 0 ≤ W.getD p.toNat 0 ∧ W.getD p.toNat 0 < (n : Int)) → cntTo W l n = l.length
  | [], _ => by
    have : ∀ n, cntTo W [] n = 0 := fun n => by
      induction n with
      | zero => rfl
      | succ n ih => show cntTo W [] n + cnt W [] n = 0; rw [ih]; rfl
    exact this n
  | p :: r, h => by
    rw [cntTo_cons, if_pos (h p List.mem_cons_self), cntTo_all fun q hq => h q (List.mem_cons_of_mem _ hq)]; rfl
theorem sumO_ask {b b' : Bk} {l : List Int} {c : Rq} {w : Int} (q : Asked b b' l c w) : ∀ n, n ≤ b.O.length → sumO b' n = sumO b n + (6 / (l.length : Int)) * w * (cntTo b.W l n : Int)
  | 0, _ => by show (0 : Int) = 0 + _ * ((0 : Nat) : Int); rw [Int.natCast_zero, Int.mul_zero]; rfl
  | n + 1, h => by
    show sumO b' n + vl (b'.O.getD n accZ).U = sumO b n + vl (b.O.getD n accZ).U + _ * ((cntTo b.W l n + cnt b.W l n : Nat) : Int)
    rw [sumO_ask q n (by omega), q.uo n (by omega), Int.natCast_add, Int.mul_add]
    unfold sh
    omega
theorem sumO_bd {b : Bk} (hv : BV b) : ∀ n, n ≤ b.O.length → 0 ≤ sumO b n ∧ sumO b n ≤ 100000 * n
  | 0, _ => ⟨Int.le_refl _, by show (0 : Int) ≤ _; omega⟩
  | n + 1, h => by
    have h1 := sumO_bd hv n (by omega)
    have h2 := hv.o n (by omega)
    have h3 := h2.u.n
    have h4 := h2.le
    have h5 := h2.b
    show 0 ≤ sumO b n + vl (b.O.getD n accZ).U ∧ sumO b n + vl (b.O.getD n accZ).U ≤ _
    omega
theorem ask_sum {b : Bk} (hb : BOk b) {l : List Int} {c : Rq} {w : Int} (hv : BV b) (hl : l.length ≤ 3) (hc : Vk 12 c w) (hw : w ≤ 1000) (h : askE b l c = 0) : sumO (askB b l c) b.O.length = sumO b b.O.length + 6 * w := by
  obtain ⟨h1, h2, _⟩ := (ask_iff hv hl hc hw).1 h
  rw [sumO_ask (asked hv hl hc hw h) _ (Nat.le_refl _), cntTo_all (n := b.O.length) fun p hp => by
    have hr := kn_range h2 p hp
    have := hb.w.2 (b.W.getD p.toNat 0) (getD_mem (by rw [hb.w.1]; omega))
    exact this]
  have h0 : 0 < l.length := by cases l with
    | nil => exact absurd rfl h1
    | cons a r => exact Nat.succ_pos _
  have e : (6 / (l.length : Int)) * w * (l.length : Int) = 6 * w := by
    rcases (by omega : l.length = 1 ∨ l.length = 2 ∨ l.length = 3) with e | e | e <;> rw [e]
    · show (6 / 1 : Int) * w * 1 = _; rw [show (6 / 1 : Int) = 6 by decide]; omega
    · show (6 / 2 : Int) * w * 2 = _; rw [show (6 / 2 : Int) = 3 by decide]; omega
    · show (6 / 3 : Int) * w * 3 = _; rw [show (6 / 3 : Int) = 2 by decide]; omega
  rw [e]
/-- What was asked for up to an act, and what of it was given. -/
def allK (T : List ActS) (b : Bk) : Nat → Rq
  | 0 => rz
  | k + 1 => if doE (runTo T b k) (T.getD k actZ) = 0 ∧ (T.getD k actZ).R = false then addV (allK T b k) (T.getD k actZ).C else allK T b k
def Tot (a : Rq) (b : Bk) : Prop := Vk 72 a (sumO b b.O.length)
theorem do_ask {b : Bk} {x : ActS} (h : x.R = false) : doE b x = askE b x.P x.C ∧ doB b x = askB b x.P x.C := by
  have : isRm x = false := by unfold isRm; rw [h]; rfl
  unfold doE doB
  rw [this]
  exact ⟨rfl, rfl⟩
theorem tot_ask {a : Rq} {b : Bk} (hb : BOk b) {x : ActS} {w : Int} (hv : BV b) (hO : b.O.length ≤ 3) (hl : x.P.length ≤ 3) (hc : Vk 12 x.C w) (hw : w ≤ 72) (h : doE b x = 0) (hR : x.R = false) (ht : Tot a b) : addE a x.C = 0 ∧ Tot (addV a x.C) (doB b x) := by
  rw [(do_ask hR).1] at h
  rw [(do_ask hR).2]
  have hs := ask_sum hb hv hl hc (by omega) h
  have q := asked hv hl hc (by omega) h
  have hbd := sumO_bd q.v b.O.length (by rw [q.no]; exact Nat.le_refl _)
  obtain ⟨h1, h2, _⟩ := add_val (K := 72) ⟨by decide, by decide⟩ ht (hc.scale (m := 6) (by decide)) (by rw [hs] at hbd; omega)
  refine ⟨h1, ?_⟩
  unfold Tot
  rw [q.no, hs]
  exact h2
/-- Nothing else changes what all owe. -/
theorem tot_other {a : Rq} {b : Bk} {x : ActS} (h : ¬ (doE b x = 0 ∧ x.R = false)) (ht : Tot a b) : Tot a (doB b x) := by
  by_cases hx : isRm x = true
  · have e : doB b x = rmB b (x.P.getD 0 0) := if_pos hx
    rw [e]
    unfold rmB
    split
    · have : ∀ n, sumO ⟨b.A, b.O, b.W, b.R.set (x.P.getD 0 0).toNat true⟩ n = sumO b n := fun n => by
        induction n with
        | zero => rfl
        | succ n ih => show sumO _ n + _ = sumO b n + _; rw [ih]
      unfold Tot
      rw [this]
      exact ht
    · exact ht
  · have e : doB b x = askB b x.P x.C := if_neg hx
    have e2 : doE b x = askE b x.P x.C := if_neg hx
    rw [e, show askB b x.P x.C = b from if_neg fun h0 => ?_]
    · exact ht
    · rw [e2] at h
      cases hR : x.R with
      | false => exact h ⟨h0, hR⟩
      | true =>
        have hP : x.P = [] := by
          unfold isRm at hx
          rw [hR, Bool.true_and, decide_eq_true_eq] at hx
          exact List.length_eq_zero_iff.1 (by omega)
        exact (ask_zero h0).1 hP
theorem run_tot {T : List ActS} {b : Bk} (hb : BOk b) (hv : BV b) (hO : b.O.length ≤ 3) (hT : ActsV T) (h0 : sumO b b.O.length = 0) : ∀ k, Tot (allK T b k) (runTo T b k)
  | 0 => by show Vk 72 rz (sumO b b.O.length); rw [h0]; exact Vk.zero 72
  | k + 1 => by
    have ih := run_tot hb hv hO hT h0 k
    obtain ⟨h1, w, h2, h3⟩ := hT k
    show Tot (if _ then _ else _) (doB (runTo T b k) (T.getD k actZ))
    split
    · rename_i h
      exact (tot_ask (run_bok hb (fun k => by have := (hT k).1; omega) k) (run_bv hv hT k) (by rw [(run_L hv hT k).2.2.2.1]; exact hO) h1 h2 h3 h.1 h.2 ih).2
    · rename_i h
      exact tot_other h ih
def owS (b : Bk) : Nat → Rq
  | 0 => rz
  | m + 1 => addV (owS b m) (b.O.getD m accZ).U
theorem owS_val {b : Bk} (hv : BV b) (hO : b.O.length ≤ 3) : ∀ m, m ≤ b.O.length → Vk 72 (owS b m) (sumO b m)
  | 0, _ => Vk.zero 72
  | m + 1, h => by
    have h1 := owS_val hv hO m (by omega)
    have h2 := sumO_bd hv (m + 1) h
    exact (add_val (K := 72) ⟨by decide, by decide⟩ h1 (hv.o m (by omega)).u (by show sumO b (m + 1) ≤ _; omega)).2.1
theorem owS_add {b : Bk} (hv : BV b) (hO : b.O.length ≤ 3) {m : Nat} (h : m < b.O.length) : addE (owS b m) (b.O.getD m accZ).U = 0 := by
  have h2 := sumO_bd hv (m + 1) h
  exact (add_val (K := 72) ⟨by decide, by decide⟩ (owS_val hv hO m (by omega)) (hv.o m h).u (by show sumO b (m + 1) ≤ _; omega)).1
/-- What the persons have spent while an act's are charged one after the other. -/
def ownJ (B : Bk) (l : List Int) (c : Rq) (t i : Nat) : Rq := if (i : Int) ∈ l.take t then addV (B.A.getD i accZ).U c else (B.A.getD i accZ).U
theorem ownJ_zero {B : Bk} {l : List Int} {c : Rq} {i : Nat} : ownJ B l c 0 i = (B.A.getD i accZ).U := if_neg (by rw [List.take_zero]; exact List.not_mem_nil)
theorem ownJ_all {b b' : Bk} {l : List Int} {c : Rq} {w : Int} (q : Asked b b' l c w) {i : Nat} : ownJ b l c l.length i = (b'.A.getD i accZ).U := by
  unfold ownJ
  rw [List.take_length, q.a i]
  split <;> rfl
theorem ownJ_new {B : Bk} {l : List Int} {c : Rq} {t : Nat} (hk : knE B l = 0) (ht : t < l.length) : 0 ≤ l.getD t 0 ∧ l.getD t 0 < B.A.length ∧ ownJ B l c t (l.getD t 0).toNat = (B.A.getD (l.getD t 0).toNat accZ).U := by
  have hz := knL_all (show knL B l 0 l.length = 0 from hk) t (by omega) (by omega)
  have hr := kn_zero hz
  refine ⟨hr.1, hr.2, if_neg ?_⟩
  rw [Int.toNat_of_nonneg hr.1]
  intro hm
  unfold kn at hz
  rw [if_neg (by omega), if_pos hm] at hz
  cases hz
theorem ownJ_step {B : Bk} {l : List Int} {c : Rq} {t i : Nat} (hk : knE B l = 0) (ht : t < l.length) : ownJ B l c (t + 1) i = if i = (l.getD t 0).toNat then addV (ownJ B l c t i) c else ownJ B l c t i := by
  obtain ⟨h1, h2, h3⟩ := ownJ_new (c := c) hk ht
  by_cases h : i = (l.getD t 0).toNat
  · rw [if_pos h, h, h3]
    refine if_pos ?_
    rw [take_snoc (d := 0) ht, Int.toNat_of_nonneg h1]
    exact List.mem_append_right _ List.mem_cons_self
  · rw [if_neg h]
    unfold ownJ
    have hm : (i : Int) ∈ l.take (t + 1) ↔ (i : Int) ∈ l.take t := by
      rw [take_snoc (d := 0) ht, List.mem_append, List.mem_singleton]
      constructor
      · rintro (h4 | h4)
        · exact h4
        · omega
      · exact .inl
    by_cases h5 : (i : Int) ∈ l.take t
    · rw [if_pos h5, if_pos (hm.2 h5)]
    · rw [if_neg h5, if_neg (fun h6 => h5 (hm.1 h6))]
/-- Nothing else changes what persons have spent. -/
theorem do_other_A {b : Bk} {x : ActS} (h : ¬ (doE b x = 0 ∧ x.R = false)) : (doB b x).A = b.A := by
  by_cases hx : isRm x = true
  · have e : doB b x = rmB b (x.P.getD 0 0) := if_pos hx
    rw [e]
    unfold rmB
    split <;> rfl
  · have e : doB b x = askB b x.P x.C := if_neg hx
    have e2 : doE b x = askE b x.P x.C := if_neg hx
    rw [e, show askB b x.P x.C = b from if_neg fun h0 => ?_]
    rw [e2] at h
    cases hR : x.R with
    | false => exact h ⟨h0, hR⟩
    | true =>
      have hP : x.P = [] := by
        unfold isRm at hx
        rw [hR, Bool.true_and, decide_eq_true_eq] at hx
        exact List.length_eq_zero_iff.1 (by omega)
      exact (ask_zero h0).1 hP
end Go.Bg
