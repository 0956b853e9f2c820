
/- dioramalaw41.DiskTears, the plain law. -/
import Derived.Test.YtnehadphaakepaaEt
set_option linter.unusedSimpArgs false
set_option linter.unusedVariables false
namespace Go.Proofs.Ytnehadphaakepaa
open Go.V Go.RowKit Go.L Go.Dk
theorem rmt_get (picks : List Int) (S : List Sec) : ∀ m, m ≤ S.length →
    (rmt picks m S).1.length = S.length ∧ (rmt picks m S).2 ≤ m ∧ ∀ i, i < S.length → (rmt picks m S).1.getD i secZ = if i < m ∧ (S.getD i secZ).D = true then setl (S.getD i secZ) (upto (pickAt picks (rmt picks i S).2)) else S.getD i secZ
  | 0, _ => ⟨rfl, Nat.le_refl _, fun i _ => by rw [if_neg (fun h => absurd h.1 (Nat.not_lt_zero _))]; rfl⟩
  | m + 1, hm => by
    obtain ⟨h1, h2, h3⟩ := rmt_get picks S m (by omega)
    have hm3 := h3 m (by omega)
    rw [if_neg (fun h => absurd h.1 (Nat.lt_irrefl _))] at hm3
    have e : rmt picks (m + 1) S = if ((rmt picks m S).1.getD m secZ).D = true then ((rmt picks m S).1.set m (setl ((rmt picks m S).1.getD m secZ) (upto (pickAt picks (rmt picks m S).2))), (rmt picks m S).2 + 1) else rmt picks m S := rfl
    rw [hm3] at e
    by_cases hD : (S.getD m secZ).D = true
    · rw [if_pos hD] at e
      rw [e]
      refine ⟨by rw [List.length_set]; exact h1, by show _ + 1 ≤ m + 1; omega, fun i hi => ?_⟩
      show ((rmt picks m S).1.set m _).getD i secZ = _
      by_cases him : i = m
      · subst him
        rw [getD_set (by omega), if_pos ⟨Nat.lt_succ_self _, hD⟩]
      · rw [getD_set_ne him, h3 i hi]
        by_cases hi2 : i < m
        · simp only [hi2, Nat.lt_succ_of_lt hi2]
        · simp only [hi2, show ¬ i < m + 1 by omega]
    · rw [if_neg hD] at e
      rw [e]
      refine ⟨h1, by omega, fun i hi => ?_⟩
      rw [h3 i hi]
      by_cases him : i = m
      · subst him
        rw [if_neg (fun h => absurd h.1 (Nat.lt_irrefl _)), if_neg (fun h => hD h.2)]
      · by_cases hi2 : i < m
        · simp only [hi2, Nat.lt_succ_of_lt hi2]
        · simp only [hi2, show ¬ i < m + 1 by omega]
theorem rmt_two (picks : List Int) (S : List Sec) {m : Nat} (hm : m < S.length) : (rmt picks (m + 1) S).2 = if (S.getD m secZ).D = true then (rmt picks m S).2 + 1 else (rmt picks m S).2 := by
  obtain ⟨h1, h2, h3⟩ := rmt_get picks S m (by omega)
  have hm3 := h3 m (by omega)
  rw [if_neg (fun h => absurd h.1 (Nat.lt_irrefl _))] at hm3
  have e : rmt picks (m + 1) S = if ((rmt picks m S).1.getD m secZ).D = true then ((rmt picks m S).1.set m (setl ((rmt picks m S).1.getD m secZ) (upto (pickAt picks (rmt picks m S).2))), (rmt picks m S).2 + 1) else rmt picks m S := rfl
  rw [e, hm3]
  split <;> rfl
/-- What Mount leaves in a sector. -/
theorem tears_get {n : Nat} {B : List Bs} {P : PM} {W : WM} {left : Int} (h : Good n B P W left) (picks : List Int) {i : Nat} (hi : i < n) :
    (allB picks B P W).1.getD i [] = if (secAt B P W i).D = true ∧ (secAt B P W i).W = false then tear (upto (pickAt picks (rmt picks i (secs n B P W)).2)) (secAt B P W i).X (B.getD i []) else B.getD i [] := by
  have h1 := mount_secs h picks
  obtain ⟨_, _, h3⟩ := rmt_get picks (secs n B P W) n (by rw [secs_len]; exact Nat.le_refl _)
  have h4 := h3 i (by rw [secs_len]; exact hi)
  rw [h1, secs_get hi, secs_get hi] at h4
  have h5 := congrArg Sec.T h4
  have h6 : (secAt (allB picks B P W).1 (allB picks B P W).2 W i).T = (allB picks B P W).1.getD i [] := rfl
  rw [← h6, h5]
  generalize hx : secAt B P W i = x
  have hT : x.T = B.getD i [] := by rw [← hx]; rfl
  rw [← hT]
  by_cases hD : x.D = true
  · rw [if_pos ⟨hi, hD⟩]
    unfold setl
    cases hw : x.W <;> simp [hD]
  · rw [if_neg (fun h => hD h.2), if_neg (fun h => hD h.1)]
end Go.Proofs.Ytnehadphaakepaa
