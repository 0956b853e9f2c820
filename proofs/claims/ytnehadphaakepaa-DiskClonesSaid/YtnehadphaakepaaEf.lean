
/- dioramalaw41.DiskRots; how scripts open. -/
import Derived.Test.YtnehadphaakepaaEe
set_option linter.unusedSimpArgs false
set_option linter.unusedVariables false
namespace Go.Proofs.Ytnehadphaakepaa
open Go.V Go.RowKit Go.L Go.Dk Go.ChangeShapes Go.WideShapes
theorem rots_ok (s : Int) (hs : i64B s) (l : List DOp) (hl : l.length ≤ 9223372036854775807 ∧ ∀ o ∈ l, DOpOk o) (a : Int) (ha : i64B a) (b : Int) (hb : i64B b) : Ok Try.prog 7 [] [] (rotsA s l a b) (fun r h' => r = .bool true ∧ h' = []) := by
  by_cases h0 : s < 1 ∨ 64 < s
  · exact rots_out s hs h0 l a b
  · by_cases h1 : 60 < l.length
    · exact rots_long s (by omega) (by omega) l h1 hl.1 a b
    · obtain ⟨n, rfl⟩ : ∃ n : Nat, s = n := ⟨s.toNat, by omega⟩
      exact rots_run n (by omega) (by omega) l (by omega) hl.2 a b ha hb
theorem u_str : Try.prog.underlying 9 = some .string := by kernel_rfl
theorem u_ints : Try.prog.underlying 31 = some (.slice 3) := by kernel_rfl
theorem u_op : Try.prog.underlying 33 = some (.struct #[⟨"Kind", 3, 0, false, "", "", 0⟩, ⟨"I", 3, 1, false, "", "", 8⟩, ⟨"Bit", 3, 2, false, "", "", 16⟩, ⟨"Text", 9, 3, false, "", "", 24⟩, ⟨"Picks", 31, 4, false, "", "", 40⟩]) := by kernel_rfl
theorem c_op : Try.prog.cellsOf 33 = 5 := by kernel_rfl
theorem c_int : Try.prog.cellsOf 3 = 1 := by kernel_rfl
theorem opO {H : Type} {enc : TypeId × Value → H} {W : World} : Opens enc Try.prog W 33 opA DOpOk :=
  (Opens.struct u_op c_op (OpensF.cons rfl (by kernel_rfl) (Opens.int u_int) (OpensF.cons rfl (by kernel_rfl) (Opens.int u_int) (OpensF.cons rfl (by kernel_rfl) (Opens.int u_int) (OpensF.cons rfl (by kernel_rfl) (Opens.str u_str) (OpensF.cons rfl (by kernel_rfl) (Opens.slice (0 : Int) u_ints c_int (by decide) (Opens.int u_int)) OpensF.nil)))))).as
    (fun p => ⟨p.1, p.2.1, p.2.2.1, p.2.2.2.1, p.2.2.2.2.1⟩) (fun _ _ => rfl) (fun p h => ⟨bounds_i64 h.1, bounds_i64 h.2.1, bounds_i64 h.2.2.1, h.2.2.2.1, h.2.2.2.2.1.1⟩)
end Go.Proofs.Ytnehadphaakepaa
