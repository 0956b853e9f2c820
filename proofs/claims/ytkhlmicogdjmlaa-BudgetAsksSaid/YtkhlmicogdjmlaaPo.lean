
/- Fractions as a law's arguments. -/
import Derived.Test.YtkhlmicogdjmlaaRb
set_option linter.unusedSimpArgs false
set_option linter.unusedVariables false
namespace Go.Proofs.Ytkhlmicogdjmlaa
open Go.V Go.RowKit Go.L Go.Rt
theorem u_intR : Try.prog.underlying 3 = some (.int .i64) := by kernel_rfl
theorem u_rat : Try.prog.underlying 24 = some (.struct #[⟨"P", 3, 0, false, "", "", 0⟩, ⟨"Q", 3, 1, false, "", "", 8⟩]) := by kernel_rfl
theorem c_rat : Try.prog.cellsOf 24 = 2 := by kernel_rfl
theorem opR {H : Type} {enc : TypeId × Value → H} {W : World} : Opens enc Try.prog W 24 ratA R64 :=
  (Opens.struct u_rat c_rat (OpensF.cons rfl (by kernel_rfl) (Opens.int u_intR) (OpensF.cons rfl (by kernel_rfl) (Opens.int u_intR) OpensF.nil))).as
    (fun p => ⟨p.1, p.2.1⟩) (fun _ _ => rfl) (fun p h => ⟨bounds_i64 h.1, bounds_i64 h.2.1⟩)
end Go.Proofs.Ytkhlmicogdjmlaa
