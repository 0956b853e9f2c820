
/- dioramaref39.Check; both Checks. -/
import Derived.Test.YtbphmbmdkojbnaaDoorTp
set_option linter.unusedSimpArgs false
set_option linter.unusedVariables false
namespace Go.Proofs.YtbphmbmdkojbnaaDoor
open Go.V Go.RowKit Go.U Go.L
/-- What Check returns. -/
def checkE (root : List UInt8) (n p : Int) (L leaves : List (List UInt8)) : Int :=
  if leaves.length = 0 ∨ n < 1 ∨ 1073741824 < n ∨ p < 0 ∨ n - leaves.length < p then 1 else if (Tree.rest p.toNat (p.toNat + leaves.length) 0 n.toNat).length = L.length ∧ valD p.toNat (p.toNat + leaves.length) L leaves 0 n.toNat 0 = root then 0 else 15
theorem check_ok (root : List UInt8) (hr : root.length = 16) (n p : Int) (L leaves : List (List UInt8)) (hl : LOk leaves) (hl2 : leaves.length ≤ 1000000000) (hL : DOk L) : Ok Tryd.prog 20 gK [] (argsK root n p L leaves) (fun r h' => r = .int .i64 (checkE root n p L leaves) ∧ h' = []) := by
  unfold checkE
  by_cases h : leaves.length = 0 ∨ n < 1 ∨ 1073741824 < n ∨ p < 0 ∨ n - leaves.length < p
  · rw [if_pos h]; exact check_no root n p L leaves hl2 hL.1 h
  · rw [if_neg h]
    obtain ⟨a, rfl⟩ : ∃ a : Nat, p = a := ⟨p.toNat, by omega⟩
    obtain ⟨b, rfl⟩ : ∃ b : Nat, n = b := ⟨n.toNat, by omega⟩
    exact check_yes root hr b a L leaves hl hl2 hL (by omega) (by omega) (by omega) (by omega) _ _ rfl rfl
end Go.Proofs.YtbphmbmdkojbnaaDoor
