
/- The program's disks and the reference's: how they correspond. -/
import Derived.Test.YtnehadphaakepaaEl
set_option linter.unusedSimpArgs false
set_option linter.unusedVariables false
namespace Go.Proofs.Ytnehadphaakepaa
open Go.V Go.RowKit Go.L Go.Dk
def secAt (B : List Bs) (P : PM) (W : WM) (i : Nat) : Sec := ⟨B.getD i [], (mFind P (i : Int)).getD [], (mFind P (i : Int)).isSome, isW W i⟩
def secs (n : Nat) (B : List Bs) (P : PM) (W : WM) : List Sec := (List.range n).map (secAt B P W)
variable {n : Nat} {B : List Bs} {P : PM} {W : WM}
theorem secs_len : (secs n B P W).length = n := by unfold secs; rw [List.length_map, List.length_range]
theorem secs_get {i : Nat} (h : i < n) : (secs n B P W).getD i secZ = secAt B P W i := by
  unfold secs
  rw [List.getD_eq_getElem?_getD, List.getElem?_map, List.getElem?_range h]; rfl
theorem secs_elem {j : Nat} (h : j < (secs n B P W).length) : (secs n B P W)[j] = secAt B P W j := by simp [secs]
theorem secs_set {i : Nat} {B' : List Bs} {P' : PM} {W' : WM} {x : Sec} (hx : x = secAt B' P' W' i) (h : ∀ j, j < n → j ≠ i → secAt B' P' W' j = secAt B P W j) : (secs n B P W).set i x = secs n B' P' W' := by
  subst hx
  refine List.ext_getElem (by rw [List.length_set, secs_len, secs_len]) fun j h1 h2 => ?_
  rw [secs_len] at h2
  rw [List.getElem_set]
  rw [secs_elem, secs_elem]
  by_cases e : i = j
  · rw [if_pos e, e]
  · rw [if_neg e]; exact (h j h2 fun e' => e e'.symm).symm
theorem rmt_secs (picks : List Int) (hB : B.length = n) (hP : (P.map (·.1)).Nodup) : ∀ k, k ≤ n →
    rmt picks k (secs n B P W) = (secs n (setB W picks 0 (picked (fun i => (mFind P (i : Int)).isSome) k) (B, P)).1 (setB W picks 0 (picked (fun i => (mFind P (i : Int)).isSome) k) (B, P)).2 W, (picked (fun i => (mFind P (i : Int)).isSome) k).length) ∧
    (setB W picks 0 (picked (fun i => (mFind P (i : Int)).isSome) k) (B, P)).1.length = n ∧ ((setB W picks 0 (picked (fun i => (mFind P (i : Int)).isSome) k) (B, P)).2.map (·.1)).Nodup ∧
    ∀ j : Nat, k ≤ j → mFind (setB W picks 0 (picked (fun i => (mFind P (i : Int)).isSome) k) (B, P)).2 (j : Int) = mFind P (j : Int)
  | 0, _ => ⟨rfl, hB, hP, fun _ _ => rfl⟩
  | k + 1, hk => by
    obtain ⟨h1, h2, h3, h4⟩ := rmt_secs picks hB hP k (by omega)
    have hps : picked (fun i => (mFind P (i : Int)).isSome) (k + 1) = if (mFind P (k : Int)).isSome = true then picked (fun i => (mFind P (i : Int)).isSome) k ++ [(k : Int)] else picked (fun i => (mFind P (i : Int)).isSome) k := rfl
    have hr : rmt picks (k + 1) (secs n B P W) = if ((rmt picks k (secs n B P W)).1.getD k secZ).D = true then ((rmt picks k (secs n B P W)).1.set k (setl ((rmt picks k (secs n B P W)).1.getD k secZ) (upto (pickAt picks (rmt picks k (secs n B P W)).2))), (rmt picks k (secs n B P W)).2 + 1) else rmt picks k (secs n B P W) := rfl
    have hsb := setB_append W picks (picked (fun i => (mFind P (i : Int)).isSome) k) (k : Int) 0 (B, P)
    have hk4 := h4 k (Nat.le_refl _)
    rw [hr, hps, h1]
    generalize picked (fun i => (mFind P (i : Int)).isSome) k = L at *
    generalize hS : setB W picks 0 L (B, P) = S at *
    have hD : ((secs n S.1 S.2 W).getD k secZ).D = (mFind P (k : Int)).isSome := by
      rw [secs_get (by omega), ← hk4]; rfl
    simp only [hD]
    by_cases hm : (mFind P (k : Int)).isSome = true
    · rw [if_pos hm, if_pos hm, hsb, Nat.zero_add]
      have e : setB W picks L.length [(k : Int)] S = (if isW W (k : Int) = true then S.1 else S.1.set k (tear (upto (pickAt picks L.length)) ((mFind S.2 (k : Int)).getD []) (S.1.getD k [])), mDel S.2 (k : Int)) := rfl
      rw [e]
      have hfd : ∀ j : Nat, mFind (mDel S.2 (k : Int)) (j : Int) = if k = j then none else mFind S.2 (j : Int) := fun j => by
        rw [mFind_mDel h3]
        by_cases e : k = j
        · rw [if_pos e, if_pos (by omega)]
        · rw [if_neg e, if_neg (by omega)]
      refine ⟨?_, ?_, mDel_nodup h3, fun j hj => ?_⟩
      · refine Prod.ext ?_ (by simp)
        refine secs_set ?_ fun j hj hjk => ?_
        · rw [secs_get (by omega)]
          unfold setl secAt
          simp only [hfd, if_true]
          by_cases hw : isW W (k : Int) = true
          · simp [hw]
          · simp only [hw, if_false, Bool.false_eq_true]
            rw [getD_set (by omega)]; rfl
        · have hfj := hfd j
          rw [if_neg (fun e => hjk e.symm)] at hfj
          unfold secAt
          rw [hfj]
          by_cases hw : isW W (k : Int) = true
          · simp only [hw, if_true]
          · simp only [hw, if_false, Bool.false_eq_true]
            rw [getD_set_ne hjk]
      · show (if isW W (k : Int) = true then S.1 else _ : List Bs).length = n
        split
        · exact h2
        · rw [List.length_set]; exact h2
      · show mFind (mDel S.2 (k : Int)) (j : Int) = _
        rw [hfd, if_neg (by omega)]; exact h4 j (by omega)
    · rw [if_neg hm, if_neg hm, hS]
      exact ⟨rfl, h2, h3, fun j hj => h4 j (by omega)⟩
end Go.Proofs.Ytnehadphaakepaa
