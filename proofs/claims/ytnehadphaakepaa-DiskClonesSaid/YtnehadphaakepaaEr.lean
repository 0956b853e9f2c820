
/- What worn sectors' marks are, always. -/
import Derived.Test.YtnehadphaakepaaEq
set_option linter.unusedSimpArgs false
set_option linter.unusedVariables false
namespace Go.Proofs.Ytnehadphaakepaa
open Go.V Go.RowKit Go.L Go.Dk
theorem wt_do {n : Nat} {D : Disk} {o : DOp} (h : ∀ q ∈ D.W, q.2 = true) : ∀ q ∈ (doD n D o).W, q.2 = true := by
  unfold doD
  split
  · exact h
  split
  · exact h
  split
  · split
    · exact h
    split
    · exact h
    · exact h
  split
  · exact h
  split
  · exact h
  split
  · exact h
  split
  · intro q hq
    have hq : q ∈ (if bad n o.I then D.W else mSet D.W o.I true) := hq
    split at hq
    · exact h q hq
    · rcases mSet_mem q hq with rfl | hq
      · rfl
      · exact h q hq
  · exact h
theorem max_64 {l : Int} (h : i64B l) : i64B (max (-1) l) := by
  obtain ⟨h1, h2⟩ := h
  constructor <;> omega
/-- The reference does what the program does (Rot set aside). -/
abbrev RBoth (n : Nat) (D : Disk) (o : DOp) : Prop :=
  RDo n (secs n D.B D.P D.W) D.off (max (-1) D.left) o (secs n (doD n D o).B (doD n D o).P (doD n D o).W) (doD n D o).off (max (-1) (doD n D o).left) (doS n D o) (doE n D o)
theorem rboth1 {n : Nat} {B : List Bs} {P : PM} {W : WM} {off : Bool} {left I Bit : Int} {T : Bs} {Pk : List Int} (h : Good n B P W left) (ho : DOpOk ⟨1, I, Bit, T, Pk⟩) : RBoth n ⟨B, P, W, off, left⟩ ⟨1, I, Bit, T, Pk⟩ := by
  obtain ⟨e1, e2, e3⟩ := stp_left left
  have hw : wrE n off (max (-1) left) I (textS T) = wrE n off left I (textS T) := by unfold wrE; rw [e1]
  have c := rdo1 (off := off) (rgood_secs h) (max_64 h.l64) ho
  rw [hw, e2, e3] at c
  show RDo n (secs n B P W) off (max (-1) left) _ (secs n B (if wrE n off left I (textS T) = 0 then mSet P I (textS T) else P) W) (if wrGo n off I (textS T) = true then stpO off left else off) (max (-1) (if wrGo n off I (textS T) = true then stpL left else left)) [] (wrE n off left I (textS T))
  have hs : (if wrE n off left I (textS T) = 0 then wrS (secs n B P W) I (textS T) else secs n B P W) = secs n B (if wrE n off left I (textS T) = 0 then mSet P I (textS T) else P) W := by
    by_cases he : wrE n off left I (textS T) = 0
    · rw [if_pos he, if_pos he]
      have hc : chk n off I = 0 := by
        unfold wrE at he
        by_cases hc : chk n off I = 0
        · exact hc
        · rw [if_pos hc] at he; exact absurd he hc
      obtain ⟨_, hb⟩ := chk_zero hc
      exact write_secs hb.1 hb.2 _
    · rw [if_neg he, if_neg he]
  have hl : (if wrGo n off I (textS T) = true then max (-1) (stpL left) else max (-1) left) = max (-1) (if wrGo n off I (textS T) = true then stpL left else left) := by
    split <;> rfl
  rw [hs, hl] at c
  exact c
end Go.Proofs.Ytnehadphaakepaa
