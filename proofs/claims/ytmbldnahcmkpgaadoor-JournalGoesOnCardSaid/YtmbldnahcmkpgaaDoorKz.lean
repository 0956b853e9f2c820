/- How scripts of steps open. JournalGoesOn, for all arguments. Tables of a row as package variables by value. -/
import Derived.Test.YtmbldnahcmkpgaaDoorBi
import Derived.OpenShut
import Derived.Test.YtmbldnahcmkpgaaDoorBf
import Derived.Test.YtmbldnahcmkpgaaDoorDb
import Derived.Test.YtmbldnahcmkpgaaDoorFd
import Derived.Lib.LaidTab
import Derived.Deep.DeepHandedRow
set_option linter.unusedSimpArgs false
set_option linter.unusedVariables false
namespace Go.Proofs.YtmbldnahcmkpgaaDoor
open Go.V Go.RowKit Go.L Go.Lx Go.Dk Go.Jn Go.ChangeShapes Go.WideShapes
theorem uj_int : Tryd.prog.underlying 3 = some (.int .i64) := by kernel_rfl
theorem uj_ints : Tryd.prog.underlying 44 = some (.slice 3) := by kernel_rfl
theorem uj_u8 : Tryd.prog.underlying 5 = some (.int .u8) := by kernel_rfl
theorem uj_step : Tryd.prog.underlying 46 = some (.struct #[⟨"Kind", 3, 0, false, "", "", 0⟩, ⟨"I", 3, 1, false, "", "", 8⟩, ⟨"Bit", 3, 2, false, "", "", 16⟩, ⟨"Size", 3, 3, false, "", "", 24⟩, ⟨"Fill", 5, 4, false, "", "", 32⟩, ⟨"Picks", 44, 5, false, "", "", 40⟩]) := by kernel_rfl
theorem cj_step : Tryd.prog.cellsOf 46 = 6 := by kernel_rfl
theorem cj_int : Tryd.prog.cellsOf 3 = 1 := by kernel_rfl
/-- What a step's numbers are. -/
structure StepOk (o : JStep) : Prop where
  k : I64 o.K
  i : I64 o.I
  b : I64 o.Bit
  s : I64 o.Size
  p : o.Pk.length ≤ 9223372036854775807
theorem stepO {H : Type} {enc : TypeId × Value → H} {W : World} : Opens enc Tryd.prog W 46 stepA StepOk :=
  (Opens.struct uj_step cj_step (OpensF.cons rfl (by kernel_rfl) (Opens.int uj_int) (OpensF.cons rfl (by kernel_rfl) (Opens.int uj_int) (OpensF.cons rfl (by kernel_rfl) (Opens.int uj_int) (OpensF.cons rfl (by kernel_rfl) (Opens.int uj_int) (OpensF.cons rfl (by kernel_rfl) (Opens.u8 uj_u8) (OpensF.cons rfl (by kernel_rfl) (Opens.slice (0 : Int) uj_ints cj_int (by decide) (Opens.int uj_int)) OpensF.nil))))))).as
    (fun p => (⟨p.1, p.2.1, p.2.2.1, p.2.2.2.1, p.2.2.2.2.1, p.2.2.2.2.2.1⟩ : JStep)) (fun _ _ => rfl) (fun p h => ⟨bounds_i64 h.1, bounds_i64 h.2.1, bounds_i64 h.2.2.1, bounds_i64 h.2.2.2.1, h.2.2.2.2.2.1.1⟩)
end Go.Proofs.YtmbldnahcmkpgaaDoor

namespace Go.Proofs.YtmbldnahcmkpgaaDoor
open Go.V Go.RowKit Go.L Go.Lx Go.Jn Go.Dk
theorem goes_law (s : Int) (hs : I64 s) (l : List JStep) (hl : l.length ≤ 9223372036854775807 ∧ ∀ o ∈ l, StepOk o) (w : List UInt8) (hw : w.length ≤ 9223372036854775807) : Ok Tryd.prog 4 gK [] (.pair (.int .i64 s) (.pair (stepsA l) (.pair (bytesA false w) .nul))) (fun r h' => r = .bool true ∧ h' = []) := by
  by_cases h : 200 < s ∨ 20 < l.length ∨ 8 < w.length ∨ s < 1
  · exact goes_out s l w hl.1 hw h
  · obtain ⟨n, rfl⟩ : ∃ n : Nat, s = n := ⟨s.toNat, by omega⟩
    exact goes_main n (by omega) (by omega) l (by omega) (fun o ho => (hl.2 o ho).s) w (by omega)
end Go.Proofs.YtmbldnahcmkpgaaDoor

namespace Go.Proofs.YtmbldnahcmkpgaaDoor
open Go.V Go.RowKit Go.U Go.L
theorem rep_tab {P : Program} {W : World} {name : String} {g n : Nat} {l : List UInt32} (h : Lib.TabIs P W name .u32 (l.map fun x => ((x.toNat : Nat) : Int))) (hg : P.globalNamed name = some g) (hl : l.length = n) (h0 : 0 < n) :
    Rep (ctxAt W) (.rptr false (u32A n l)) .V [.pointer (some ⟨g, 0, none⟩)] := by
  have hc : ∀ j u, (u32s l)[j]? = some u → W.cell? ⟨g, 0 + j, none⟩ = some u := fun j u hu => by
    rw [Nat.zero_add]
    have hj : j < l.length := by
      rcases Nat.lt_or_ge j l.length with h1 | h1
      · exact h1
      · rw [List.getElem?_eq_none (by simpa [u32s] using h1)] at hu; cases hu
    rw [h.cell hg j (by simpa using hj), ← hu]
    simp [u32s, hj]
  obtain ⟨x, hx⟩ : ∃ x, (u32s l)[0]? = some x := ⟨_, List.getElem?_eq_getElem (by simp [u32s]; omega)⟩
  have h1 := hc 0 x hx
  exact ⟨_, 0, u32s l, rfl, cell_lt (a := ⟨g, 0 + 0, none⟩) h1, (fun e => by cases e), hc, (rep_u32A hl).2 rfl⟩
end Go.Proofs.YtmbldnahcmkpgaaDoor
