
/- dioramaref39: joined, Check. -/
import Derived.Test.YtbphmbmdkojbnaaDoorTo
set_option linter.unusedSimpArgs false
set_option linter.unusedVariables false
namespace Go.Proofs.YtbphmbmdkojbnaaDoor
open Go.V Go.RowKit Go.U Go.L
theorem relA_digsV {A : Nat → Prop} {σ : Nat → Nat} {L : List (List UInt8)} : RelA A σ (digsV L) (digsV L) := NoId.self (a := digsV L) fun i hi j hj => trivial
theorem digsV_get {L : List (List UInt8)} {i : Nat} (h : i < L.length) : L.getD i zeroD = L.getD i [] := by
  rw [List.getD_eq_getElem?_getD, List.getD_eq_getElem?_getD, List.getElem?_eq_getElem h]; rfl
end Go.Proofs.YtbphmbmdkojbnaaDoor
