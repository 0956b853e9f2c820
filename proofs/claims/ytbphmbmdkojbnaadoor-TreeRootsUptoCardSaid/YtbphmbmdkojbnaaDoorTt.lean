
/- dioramaref39.Extends; both. -/
import Derived.Test.YtbphmbmdkojbnaaDoorTs
set_option linter.unusedSimpArgs false
set_option linter.unusedVariables false
namespace Go.Proofs.YtbphmbmdkojbnaaDoor
open Go.V Go.RowKit Go.U Go.L
theorem lOk_nil : LOk [] := ⟨by decide, fun x hx => by cases hx⟩
/-- What Extends returns. -/
def extendsE (first root : List UInt8) (x y : Int) (L : List (List UInt8)) : Int := if x < 0 ∨ y < x ∨ 1073741824 < y then 1 else if y = 0 then zeroE first root L else extE first root x.toNat y.toNat L
theorem extends_ok (first root : List UInt8) (hf : first.length = 16) (hr : root.length = 16) (x y : Int) (L : List (List UInt8)) (hL : DOk L) : Ok Tryd.prog 22 gK [] (argsX first root x y L) (fun r h' => r = .int .i64 (extendsE first root x y L) ∧ h' = []) := by
  unfold extendsE
  by_cases h : x < 0 ∨ y < x ∨ 1073741824 < y
  · rw [if_pos h]; exact ext_arg first root x y L h
  · rw [if_neg h]
    by_cases h0 : y = 0
    · rw [if_pos h0]
      obtain rfl : x = 0 := by omega
      subst h0
      exact ext_zero first root hf hr L hL
    · rw [if_neg h0]
      obtain ⟨a, rfl⟩ : ∃ a : Nat, x = a := ⟨x.toNat, by omega⟩
      obtain ⟨b, rfl⟩ : ∃ b : Nat, y = b := ⟨y.toNat, by omega⟩
      exact ext_pos first root hf hr a b (by omega) (by omega) (by omega) L hL
end Go.Proofs.YtbphmbmdkojbnaaDoor
