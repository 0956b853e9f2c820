/-
  No cell of these rows narrows 'for every input' (looked for: loops, veiled, ifaces, maps, wideKeys, modest, calm, conditions, laid).
  DERIVED. THE GIVEN ROWS OF THIS SEAT. 6 by the template 'for every input the law returns true; each argument reads behind the call as it read before'; 0 by the template 'total and deterministic' (their statements: YtkhlmicogdjmlaaTotals.lean).
  GIVEN WITH THE SEED: the statements are not yours to turn. If you find one false, say at which input.
  Laid BY PROGRAM, IN A SANDBOX (cutbox-rows.mjs): the forced cells as the released guide's own fill.sh prints them over the translation 0673ab9746553ea0… (all of the seat's roots in one cut). By AI agents, Wed Nov 11 2026. No macro, syntax, notation, axiom, sorry.
-/
import Derived.Test.YtkhlmicogdjmlaaChecked
import GoSem.Claim
import GoSem.ClaimJoined
import GoSem.ClaimMapViews
import Derived.JoinedTies
import Derived.KernelRfl
namespace Go.Proofs.Ytkhlmicogdjmlaa
/- THE CELL 'sum', in the pinned program and in every row, IS THE sha256 OF THE DUMP (.gsa) THAT YtkhlmicogdjmlaaProg.lean LOADS. Nothing in Lean hashes anything: it is a label: what it is worth is what the hold of that sum in a sandbox is worth. -/
noncomputable def Try.pinned : Pinned := { name := "ytkhlmicogdjmlaa", sum := "0673ab9746553ea0a78a0f949adb9b833be427341d009f1488a73f90b66a076d", checked := Try.checked }
namespace Rows
def none {H : Type} : Left H := { results := [], args := [] }

/-- 'dioramalaw24.BudgetBegins': WHATEVER THE INPUT: true; the input reads as it did. -/
def budgetBeginsSpec : ChangeSpec := { name := "budgetBegins", fn := fun _ => fun
  | [d1, d2, d3, d4, d5] => { results := [.lit (.bool true)], args := [d1, d2, d3, d4, d5] }
  | _ => none }
def budgetBeginsRow : OpenClaim := { program := "ytkhlmicogdjmlaa", sum := "0673ab9746553ea0a78a0f949adb9b833be427341d009f1488a73f90b66a076d", func := "diorama/dioramalaw24.BudgetBegins", spec := "budgetBegins", unfollowed := true, recurses := true, apart := false }
def BudgetBeginsSaid : Prop := budgetBeginsRow.holds Try.pinned (OpenSpec.ofChange budgetBeginsSpec)

/-- ITS FALSE NEIGHBOUR: 'it returns false'. Refute it at one input. -/
def budgetBeginsWrong : ChangeSpec := { name := "budgetBegins", fn := fun _ => fun
  | [d1, d2, d3, d4, d5] => { results := [.lit (.bool false)], args := [d1, d2, d3, d4, d5] }
  | _ => none }
def BudgetBeginsWrongFalsely : Prop := budgetBeginsRow.holds Try.pinned (OpenSpec.ofChange budgetBeginsWrong)

/-- 'dioramalaw24.BudgetAsks': WHATEVER THE INPUT: true; the input reads as it did. -/
def budgetAsksSpec : ChangeSpec := { name := "budgetAsks", fn := fun _ => fun
  | [d1, d2, d3, d4] => { results := [.lit (.bool true)], args := [d1, d2, d3, d4] }
  | _ => none }
def budgetAsksRow : OpenClaim := { program := "ytkhlmicogdjmlaa", sum := "0673ab9746553ea0a78a0f949adb9b833be427341d009f1488a73f90b66a076d", func := "diorama/dioramalaw24.BudgetAsks", spec := "budgetAsks", unfollowed := true, recurses := true, apart := false }
def BudgetAsksSaid : Prop := budgetAsksRow.holds Try.pinned (OpenSpec.ofChange budgetAsksSpec)

/-- ITS FALSE NEIGHBOUR: 'it returns false'. Refute it at one input. -/
def budgetAsksWrong : ChangeSpec := { name := "budgetAsks", fn := fun _ => fun
  | [d1, d2, d3, d4] => { results := [.lit (.bool false)], args := [d1, d2, d3, d4] }
  | _ => none }
def BudgetAsksWrongFalsely : Prop := budgetAsksRow.holds Try.pinned (OpenSpec.ofChange budgetAsksWrong)

/-- 'dioramalaw24.BudgetKept': WHATEVER THE INPUT: true; the input reads as it did. -/
def budgetKeptSpec : ChangeSpec := { name := "budgetKept", fn := fun _ => fun
  | [d1, d2] => { results := [.lit (.bool true)], args := [d1, d2] }
  | _ => none }
def budgetKeptRow : OpenClaim := { program := "ytkhlmicogdjmlaa", sum := "0673ab9746553ea0a78a0f949adb9b833be427341d009f1488a73f90b66a076d", func := "diorama/dioramalaw24.BudgetKept", spec := "budgetKept", unfollowed := true, recurses := true, apart := false }
def BudgetKeptSaid : Prop := budgetKeptRow.holds Try.pinned (OpenSpec.ofChange budgetKeptSpec)

/-- ITS FALSE NEIGHBOUR: 'it returns false'. Refute it at one input. -/
def budgetKeptWrong : ChangeSpec := { name := "budgetKept", fn := fun _ => fun
  | [d1, d2] => { results := [.lit (.bool false)], args := [d1, d2] }
  | _ => none }
def BudgetKeptWrongFalsely : Prop := budgetKeptRow.holds Try.pinned (OpenSpec.ofChange budgetKeptWrong)

/-- 'dioramalaw24.BudgetSums': WHATEVER THE INPUT: true; the input reads as it did. -/
def budgetSumsSpec : ChangeSpec := { name := "budgetSums", fn := fun _ => fun
  | [d1, d2] => { results := [.lit (.bool true)], args := [d1, d2] }
  | _ => none }
def budgetSumsRow : OpenClaim := { program := "ytkhlmicogdjmlaa", sum := "0673ab9746553ea0a78a0f949adb9b833be427341d009f1488a73f90b66a076d", func := "diorama/dioramalaw24.BudgetSums", spec := "budgetSums", unfollowed := true, recurses := true, apart := false }
def BudgetSumsSaid : Prop := budgetSumsRow.holds Try.pinned (OpenSpec.ofChange budgetSumsSpec)

/-- ITS FALSE NEIGHBOUR: 'it returns false'. Refute it at one input. -/
def budgetSumsWrong : ChangeSpec := { name := "budgetSums", fn := fun _ => fun
  | [d1, d2] => { results := [.lit (.bool false)], args := [d1, d2] }
  | _ => none }
def BudgetSumsWrongFalsely : Prop := budgetSumsRow.holds Try.pinned (OpenSpec.ofChange budgetSumsWrong)

/-- 'dioramalaw24.BudgetOrder': WHATEVER THE INPUT: true; the input reads as it did. -/
def budgetOrderSpec : ChangeSpec := { name := "budgetOrder", fn := fun _ => fun
  | [d1, d2, d3, d4, d5, d6] => { results := [.lit (.bool true)], args := [d1, d2, d3, d4, d5, d6] }
  | _ => none }
def budgetOrderRow : OpenClaim := { program := "ytkhlmicogdjmlaa", sum := "0673ab9746553ea0a78a0f949adb9b833be427341d009f1488a73f90b66a076d", func := "diorama/dioramalaw24.BudgetOrder", spec := "budgetOrder", unfollowed := true, recurses := true, apart := false }
def BudgetOrderSaid : Prop := budgetOrderRow.holds Try.pinned (OpenSpec.ofChange budgetOrderSpec)

/-- ITS FALSE NEIGHBOUR: 'it returns false'. Refute it at one input. -/
def budgetOrderWrong : ChangeSpec := { name := "budgetOrder", fn := fun _ => fun
  | [d1, d2, d3, d4, d5, d6] => { results := [.lit (.bool false)], args := [d1, d2, d3, d4, d5, d6] }
  | _ => none }
def BudgetOrderWrongFalsely : Prop := budgetOrderRow.holds Try.pinned (OpenSpec.ofChange budgetOrderWrong)

/-- 'dioramalaw24.BudgetRefused': WHATEVER THE INPUT: true; the input reads as it did. -/
def budgetRefusedSpec : ChangeSpec := { name := "budgetRefused", fn := fun _ => fun
  | [d1, d2, d3, d4] => { results := [.lit (.bool true)], args := [d1, d2, d3, d4] }
  | _ => none }
def budgetRefusedRow : OpenClaim := { program := "ytkhlmicogdjmlaa", sum := "0673ab9746553ea0a78a0f949adb9b833be427341d009f1488a73f90b66a076d", func := "diorama/dioramalaw24.BudgetRefused", spec := "budgetRefused", unfollowed := true, recurses := true, apart := false }
def BudgetRefusedSaid : Prop := budgetRefusedRow.holds Try.pinned (OpenSpec.ofChange budgetRefusedSpec)

/-- ITS FALSE NEIGHBOUR: 'it returns false'. Refute it at one input. -/
def budgetRefusedWrong : ChangeSpec := { name := "budgetRefused", fn := fun _ => fun
  | [d1, d2, d3, d4] => { results := [.lit (.bool false)], args := [d1, d2, d3, d4] }
  | _ => none }
def BudgetRefusedWrongFalsely : Prop := budgetRefusedRow.holds Try.pinned (OpenSpec.ofChange budgetRefusedWrong)

/- THE SECOND FORM. 'bulk': how many values and letters a reading holds, each counted each time it is reached (what is shared counts as often as it is met; a slice's spare places count too). A statement '..UptoSaid' is the law's where the arguments, and the package variables that the reading takes, are together of bulk at most 1048576: NARROWER than '..Said'. Prove '..Said' where nothing that the law and all that it calls make is longer than what came in: it says more and counts as full. Else prove '..UptoSaid'. A law counts once. -/
mutual
def uptoBulk {H : Type} : DataW H → Nat
  | .lit (.string bytes) => bytes.length + 1
  | .lit _ => 1
  | .nil => 1
  | .ptr d => uptoBulk d + 1
  | .slice elems spare => uptoBulkAll elems + uptoBulkAll spare + 1
  | .agg parts => uptoBulkAll parts + 1
  | .iface _ d => uptoBulk d + 1
  | .map entries => uptoBulkEntries entries + 1
  | .held _ => 1
def uptoBulkAll {H : Type} : List (DataW H) → Nat
  | [] => 0
  | d :: r => uptoBulk d + uptoBulkAll r
def uptoBulkEntries {H : Type} : List (Lit × DataW H) → Nat
  | [] => 0
  | x :: r => uptoBulkEntry x + uptoBulkEntries r
def uptoBulkEntry {H : Type} : Lit × DataW H → Nat
  | (.string bytes, d) => bytes.length + uptoBulk d + 1
  | (_, d) => uptoBulk d + 1
 end
def uptoSmall : (H : Type) → List (DataW H) → Bool := fun _ ds => decide (uptoBulkAll ds ≤ 1048576)
def OpenSpec.upto (s : _root_.Go.ChangeSpec) : _root_.Go.OpenSpec := { _root_.Go.OpenSpec.ofChange s with cond := some uptoSmall }

/-- 'dioramalaw24.BudgetBegins', WHERE WHAT IT READS IS OF BULK AT MOST 1048576: true; the input reads as it did. -/
def budgetBeginsUptoRow : OpenClaim := { program := "ytkhlmicogdjmlaa", sum := "0673ab9746553ea0a78a0f949adb9b833be427341d009f1488a73f90b66a076d", func := "diorama/dioramalaw24.BudgetBegins", spec := "budgetBegins", unfollowed := true, recurses := true, apart := false, narrowed := true }
def BudgetBeginsUptoSaid : Prop := budgetBeginsUptoRow.holds Try.pinned (OpenSpec.upto budgetBeginsSpec)

/-- 'dioramalaw24.BudgetAsks', WHERE WHAT IT READS IS OF BULK AT MOST 1048576: true; the input reads as it did. -/
def budgetAsksUptoRow : OpenClaim := { program := "ytkhlmicogdjmlaa", sum := "0673ab9746553ea0a78a0f949adb9b833be427341d009f1488a73f90b66a076d", func := "diorama/dioramalaw24.BudgetAsks", spec := "budgetAsks", unfollowed := true, recurses := true, apart := false, narrowed := true }
def BudgetAsksUptoSaid : Prop := budgetAsksUptoRow.holds Try.pinned (OpenSpec.upto budgetAsksSpec)

/-- 'dioramalaw24.BudgetKept', WHERE WHAT IT READS IS OF BULK AT MOST 1048576: true; the input reads as it did. -/
def budgetKeptUptoRow : OpenClaim := { program := "ytkhlmicogdjmlaa", sum := "0673ab9746553ea0a78a0f949adb9b833be427341d009f1488a73f90b66a076d", func := "diorama/dioramalaw24.BudgetKept", spec := "budgetKept", unfollowed := true, recurses := true, apart := false, narrowed := true }
def BudgetKeptUptoSaid : Prop := budgetKeptUptoRow.holds Try.pinned (OpenSpec.upto budgetKeptSpec)

/-- 'dioramalaw24.BudgetSums', WHERE WHAT IT READS IS OF BULK AT MOST 1048576: true; the input reads as it did. -/
def budgetSumsUptoRow : OpenClaim := { program := "ytkhlmicogdjmlaa", sum := "0673ab9746553ea0a78a0f949adb9b833be427341d009f1488a73f90b66a076d", func := "diorama/dioramalaw24.BudgetSums", spec := "budgetSums", unfollowed := true, recurses := true, apart := false, narrowed := true }
def BudgetSumsUptoSaid : Prop := budgetSumsUptoRow.holds Try.pinned (OpenSpec.upto budgetSumsSpec)

/-- 'dioramalaw24.BudgetOrder', WHERE WHAT IT READS IS OF BULK AT MOST 1048576: true; the input reads as it did. -/
def budgetOrderUptoRow : OpenClaim := { program := "ytkhlmicogdjmlaa", sum := "0673ab9746553ea0a78a0f949adb9b833be427341d009f1488a73f90b66a076d", func := "diorama/dioramalaw24.BudgetOrder", spec := "budgetOrder", unfollowed := true, recurses := true, apart := false, narrowed := true }
def BudgetOrderUptoSaid : Prop := budgetOrderUptoRow.holds Try.pinned (OpenSpec.upto budgetOrderSpec)

/-- 'dioramalaw24.BudgetRefused', WHERE WHAT IT READS IS OF BULK AT MOST 1048576: true; the input reads as it did. -/
def budgetRefusedUptoRow : OpenClaim := { program := "ytkhlmicogdjmlaa", sum := "0673ab9746553ea0a78a0f949adb9b833be427341d009f1488a73f90b66a076d", func := "diorama/dioramalaw24.BudgetRefused", spec := "budgetRefused", unfollowed := true, recurses := true, apart := false, narrowed := true }
def BudgetRefusedUptoSaid : Prop := budgetRefusedUptoRow.holds Try.pinned (OpenSpec.upto budgetRefusedSpec)

end Rows
end Go.Proofs.Ytkhlmicogdjmlaa
