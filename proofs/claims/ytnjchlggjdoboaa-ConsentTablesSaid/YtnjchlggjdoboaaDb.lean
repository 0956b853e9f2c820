
/- Disks as abstract values; the small methods. -/
import Derived.Test.YtnjchlggjdoboaaDa
import Derived.Test.YtnjchlggjdoboaaTy
set_option linter.unusedSimpArgs false
set_option linter.unusedVariables false
namespace Go.Proofs.Ytnjchlggjdoboaa
open Go.V Go.RowKit Go.L Go.Dk
def KI (n : Int) : AV := .int .i64 n
def kvI (n : Int) : Value := .int .i64 n
def VB (b : Bool) : AV := .bool b
def wornA (W : WM) : AV := moL KI VB (0, false) W
theorem u_int : Try.prog.underlying 3 = some (.int .i64) := by kernel_rfl
theorem u_worn : Try.prog.underlying 73 = some (.map 3 4) := by kernel_rfl
theorem z_bool : ∀ ti, tget TT 4 = some ti → zB Try.prog 4 ti = true := by
  intro ti h
  cases h
  kernel_rfl
theorem keyI : KeyK Try.prog 3 KI kvI := key_int u_int
variable {n : Nat} {B : List Bs} {P : PM} {W : WM} {off : Bool} {left : Int}
end Go.Proofs.Ytnjchlggjdoboaa
