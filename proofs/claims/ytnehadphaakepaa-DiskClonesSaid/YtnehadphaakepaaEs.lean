
/- The reference does what the program does (Rot set aside). -/
import Derived.Test.YtnehadphaakepaaEr
set_option linter.unusedSimpArgs false
set_option linter.unusedVariables false
namespace Go.Proofs.Ytnehadphaakepaa
open Go.V Go.RowKit Go.L Go.Dk
variable {n : Nat} {B : List Bs} {P : PM} {W : WM} {off : Bool} {left K I Bit : Int} {T : Bs} {Pk : List Int}
theorem rboth2 (ho : DOpOk ⟨2, I, Bit, T, Pk⟩) : RBoth n ⟨B, P, W, off, left⟩ ⟨2, I, Bit, T, Pk⟩ := by
  have c := rdo2 (n := n) (S := secs n B P W) (off := off) (left := max (-1) left) ho
  rw [read_secs] at c
  exact c
theorem rboth4 (ho : DOpOk ⟨4, I, Bit, T, Pk⟩) : RBoth n ⟨B, P, W, off, left⟩ ⟨4, I, Bit, T, Pk⟩ := rdo4 ho
theorem rboth5 (h : Good n B P W left) (ho : DOpOk ⟨5, I, Bit, T, Pk⟩) : RBoth n ⟨B, P, W, off, left⟩ ⟨5, I, Bit, T, Pk⟩ := by
  have c := rdo5 (off := off) (left := max (-1) left) (rgood_secs h) h.n1 ho
  rw [mount_secs h] at c
  exact c
theorem rboth7 (h : Good n B P W left) (ho : DOpOk ⟨7, I, Bit, T, Pk⟩) : RBoth n ⟨B, P, W, off, left⟩ ⟨7, I, Bit, T, Pk⟩ := by
  have c := rdo7 (off := off) (left := max (-1) left) (rgood_secs h) ho
  by_cases hb : bad n I
  · rw [if_pos hb] at c
    show RDo n (secs n B P W) off (max (-1) left) _ (secs n B P (if bad n I then W else mSet W I true)) off (max (-1) left) [] (if bad n I then 1 else 0)
    rw [if_pos hb]; exact c
  · rw [if_neg hb, wear_secs (by unfold bad at hb; omega) (by unfold bad at hb; omega)] at c
    show RDo n (secs n B P W) off (max (-1) left) _ (secs n B P (if bad n I then W else mSet W I true)) off (max (-1) left) [] (if bad n I then 1 else 0)
    rw [if_neg hb]; exact c
theorem rboth3 (h : Good n B P W left) (ho : DOpOk ⟨3, I, Bit, T, Pk⟩) : RBoth n ⟨B, P, W, off, left⟩ ⟨3, I, Bit, T, Pk⟩ := by
  obtain ⟨e1, e2, e3⟩ := stp_left left
  cases off with
  | true => exact rdo3a ho rfl
  | false =>
    by_cases hl : left = 0
    · have hl2 : max (-1) left = 0 := by omega
      have c := rdo3b (n := n) (S := secs n B P W) (off := false) (left := max (-1) left) ho rfl hl2
      subst hl
      exact c
    · have c := rdo3c (off := false) (rgood_secs h) h.n1 (max_64 h.l64) ho rfl (by omega)
      rw [mount_secs h, e2] at c
      have d1 : doD n ⟨B, P, W, false, left⟩ ⟨3, I, Bit, T, Pk⟩ = ⟨(allB [] B P W).1, (allB [] B P W).2, W, false, stpL left⟩ := by
        show (if false = true then (⟨B, P, W, false, left⟩ : Disk) else if left = 0 then (⟨B, P, W, true, left⟩ : Disk) else (⟨(allB [] B P W).1, (allB [] B P W).2, W, false, stpL left⟩ : Disk)) = _
        rw [if_neg (by decide), if_neg hl]
      have d2 : doE n ⟨B, P, W, false, left⟩ ⟨3, I, Bit, T, Pk⟩ = 0 := by
        show (if false = true then (20 : Int) else if left = 0 then 20 else 0) = _
        rw [if_neg (by decide), if_neg hl]
      unfold RBoth
      rw [d1, d2]
      exact c
theorem rboth0 (ho : DOpOk ⟨K, I, Bit, T, Pk⟩) (hk : K < 1 ∨ 7 < K) : RBoth n ⟨B, P, W, off, left⟩ ⟨K, I, Bit, T, Pk⟩ := by
  have e1 : ∀ j : Int, 1 ≤ j → j ≤ 7 → K ≠ j := fun j _ _ => by omega
  have c := rdo0 (n := n) (S := secs n B P W) (off := off) (left := max (-1) left) ho hk
  unfold RBoth
  simp only [doD, doS, doE, e1 1 (by decide) (by decide), e1 2 (by decide) (by decide), e1 3 (by decide) (by decide), e1 4 (by decide) (by decide), e1 5 (by decide) (by decide), e1 6 (by decide) (by decide), e1 7 (by decide) (by decide), if_false]
  exact c
end Go.Proofs.Ytnehadphaakepaa
