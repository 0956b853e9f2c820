
/- Budgets: an act, whatever comes of it. -/
import Derived.Test.YtkhlmicogdjmlaaPa
import Derived.Test.YtkhlmicogdjmlaaFr
set_option linter.unusedSimpArgs false
set_option linter.unusedVariables false
namespace Go.Proofs.Ytkhlmicogdjmlaa
open Go.V Go.RowKit Go.L Go.Lx Go.Rt Go.Bg
set_option maxRecDepth 10000
set_option maxHeartbeats 4000000
theorem keys_lt {h : Asc} {N : Nat} (hb : (keys h).all (fun k => Nat.blt k N) = true) : ∀ i av, get? h i = some av → i < N := fun i av hi => by
  have := List.all_eq_true.1 hb i (get?_keys hi)
  simpa [Nat.blt_eq] using this
/-- A book after an error bears the names that one after an ask bears. -/
theorem err_ren {f : FuncId} {args : AV} {e : Int} (b : Bk) (k : Ok Try.prog f [] (bH b) args (fun v h' => v = .int .i64 e ∧ h' = bH b)) : Ok Try.prog f [] (bH b) args (fun v h' => v = .int .i64 e ∧ h' = nbH b) :=
  Ok.ren 5 11 [(7, 1), (8, 2), (9, 3), (10, 4)] k (keys_lt (by rfl)) (by rfl) R_ R_
theorem ask_all (b : Bk) (hb : BOk b) (l : List Int) (hl : l.length ≤ 256) (c : Rq) (hr : R64 c) : Ok Try.prog 26 [] (bH b) (.pair (.ptr 0 []) (.pair (liV l) (.pair (ratA c) .nul))) (fun v h' => v = .int .i64 (askE b l c) ∧ h' = nbH (askB b l c)) := by
  by_cases h : askE b l c = 0
  · have := ask_fine b hb l hl c hr h
    rw [h]; exact this
  · have := err_ren b (ask_err b hb l hl c hr _ rfl h)
    rw [show askB b l c = b from if_neg h]; exact this
theorem act_all (b : Bk) (hb : BOk b) (x : ActS) (hl : x.P.length ≤ 256) (hc : R64 x.C) : Ok Try.prog 18 [] (bH b) (.pair (.ptr 0 []) (.pair (actA x) .nul)) (fun v h' => v = .int .i64 (doE b x) ∧ h' = nbH (doB b x)) := by
  unfold doE doB
  by_cases hx : isRm x = true
  · rw [if_pos hx, if_pos hx]
    have hk := act_rm b hb x hl hx
    generalize rmB b (x.P.getD 0 0) = b2 at *
    exact Ok.ren 5 11 [(7, 1), (8, 2), (9, 3), (10, 4)] hk (keys_lt (by rfl)) (by rfl) R_ R_
  · rw [if_neg hx, if_neg hx]
    have hx' : isRm x = false := by simpa using hx
    by_cases h : askE b x.P x.C = 0
    · rw [h]; exact act_fine b hb x hl hc hx' h
    · rw [show askB b x.P x.C = b from if_neg h]
      exact err_ren b (act_err b hb x hl hc hx' _ rfl h)
end Go.Proofs.Ytkhlmicogdjmlaa
