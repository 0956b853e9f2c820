
/- Budgets: what is well made stays so. -/
import Derived.Test.YtkhlmicogdjmlaaRx
set_option linter.unusedSimpArgs false
set_option linter.unusedVariables false
namespace Go.Bg
open Go.Rt Go.Lx
theorem chg_ok {c : Rq} (hc : isCost c = true) : ∀ (l : List Int) (A : List Acc) (ov : Bool), (∀ x ∈ A, AOk x) → (∀ p ∈ l, 0 ≤ p ∧ p < A.length) → (chg A ov c l).e = 0 → (chg A ov c l).A.length = A.length ∧ ∀ x ∈ (chg A ov c l).A, AOk x
  | [], A, ov, hA, _, _ => ⟨rfl, hA⟩
  | p :: r, A, ov, hA, hl, he => by
    unfold chg at he ⊢
    have hp := hl p List.mem_cons_self
    by_cases hz : acE (A.getD p.toNat accZ) c ≠ 0
    · rw [if_pos hz] at he; exact absurd he hz
    · rw [if_neg hz] at he ⊢
      have hz : acE (A.getD p.toNat accZ) c = 0 := Decidable.byContradiction hz
      have ih := chg_ok hc r _ _ (set_ok (i := p.toNat) hA (acV_ok (get_ok hA (by omega)) hc hz)) (fun q hq => by rw [List.length_set]; exact hl q (List.mem_cons_of_mem _ hq)) he
      rw [List.length_set] at ih
      exact ih
theorem chO_ok {W l : List Int} {c : Rq} (hc : isCost c = true) (hn : l.length ≤ 256) : ∀ (n o : Nat) (A : List Acc) (ov : Bool), (∀ x ∈ A, AOk x) → o + n = A.length → (chO W l c o n A ov).e = 0 → (chO W l c o n A ov).A.length = A.length ∧ ∀ x ∈ (chO W l c o n A ov).A, AOk x
  | 0, o, A, ov, hA, _, _ => ⟨rfl, hA⟩
  | n + 1, o, A, ov, hA, hl, he => by
    unfold chO at he ⊢
    by_cases h0 : cnt W l o = 0
    · rw [if_pos h0] at he ⊢
      exact chO_ok hc hn n (o + 1) A ov hA (by omega) he
    · rw [if_neg h0] at he ⊢
      by_cases h1 : shrE c (cnt W l o) l.length ≠ 0
      · rw [if_pos h1] at he; exact absurd he h1
      · rw [if_neg h1] at he ⊢
        by_cases hz : acE (A.getD o accZ) (shr c (cnt W l o) l.length) ≠ 0
        · rw [if_pos hz] at he; exact absurd he hz
        · rw [if_neg hz] at he ⊢
          have hz : acE (A.getD o accZ) (shr c (cnt W l o) l.length) = 0 := Decidable.byContradiction hz
          have hsc := shr_cost hc (by omega) (cnt_le W l o) hn (Decidable.byContradiction h1)
          have ih := chO_ok hc hn n (o + 1) _ _ (set_ok (i := o) hA (acV_ok (get_ok hA (by omega)) hsc hz)) (by rw [List.length_set]; omega) he
          rw [List.length_set] at ih
          exact ih
theorem ask_zero {b : Bk} {l : List Int} {c : Rq} (h : askE b l c = 0) : l ≠ [] ∧ isCost c = true ∧ knE b l = 0 ∧ (askP b l c).e = 0 ∧ (askO b l c).e = 0 ∧ (askO b l c).ov = false := by
  unfold askE at h
  split at h
  · cases h
  rename_i h1
  split at h
  · rename_i h2; exact absurd h h2
  rename_i h2
  split at h
  · rename_i h3; exact absurd h h3
  rename_i h3
  split at h
  · rename_i h4; exact absurd h h4
  rename_i h4
  split at h
  · cases h
  rename_i h5
  refine ⟨fun e => h1 (.inl e), ?_, Decidable.byContradiction h2, Decidable.byContradiction h3, Decidable.byContradiction h4, by simpa using h5⟩
  cases hc : isCost c with
  | true => rfl
  | false => exact absurd (.inr hc) h1
theorem kn_range {b : Bk} {l : List Int} (h : knE b l = 0) : ∀ p ∈ l, 0 ≤ p ∧ p < b.A.length := fun p hp => by
  obtain ⟨j, hj, e⟩ := (mem_getD (d := 0)).1 hp
  have := kn_zero (knL_all (show knL b l 0 l.length = 0 from h) j (by omega) (by omega))
  rw [e] at this
  exact this
theorem ask_bok {b : Bk} (hb : BOk b) {l : List Int} (hl : l.length ≤ 256) {c : Rq} : BOk (askB b l c) := by
  unfold askB
  by_cases h : askE b l c = 0
  · rw [if_pos h]
    obtain ⟨_, hc, hk, hp, ho, _⟩ := ask_zero h
    obtain ⟨p1, p2⟩ := chg_ok hc l b.A false hb.a (kn_range hk) hp
    obtain ⟨o1, o2⟩ := chO_ok (W := b.W) hc hl b.O.length 0 b.O (askP b l c).ov hb.o (by omega) ho
    exact ⟨by rw [show (askP b l c).A.length = b.A.length from p1]; exact hb.na, by rw [show (askO b l c).A.length = b.O.length from o1]; exact hb.no, p2, o2, ⟨by rw [show (askP b l c).A.length = b.A.length from p1]; exact hb.w.1, fun x hx => by rw [show (askO b l c).A.length = b.O.length from o1]; exact hb.w.2 x hx⟩, by rw [show (askP b l c).A.length = b.A.length from p1]; exact hb.r⟩
  · rw [if_neg h]; exact hb
theorem rm_bok {b : Bk} (hb : BOk b) (p : Int) : BOk (rmB b p) := by
  unfold rmB
  split
  · exact ⟨hb.na, hb.no, hb.a, hb.o, hb.w, by rw [List.length_set]; exact hb.r⟩
  · exact hb
theorem do_bok {b : Bk} (hb : BOk b) {x : ActS} (hx : x.P.length ≤ 256) : BOk (doB b x) := by
  unfold doB
  split
  · exact rm_bok hb _
  · exact ask_bok hb hx
end Go.Bg
