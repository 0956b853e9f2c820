/-
  No cell of these rows narrows 'for every input' (looked for: loops, veiled, ifaces, maps, wideKeys, modest, calm, conditions, laid).
  DERIVED. THE GIVEN ROWS OF THIS SEAT. 5 by the template 'for every input the law returns true; each argument reads behind the call as it read before'; 0 by the template 'total and deterministic' (their statements: YtnjchlggjdoboaaTotals.lean).
  GIVEN WITH THE SEED: the statements are not yours to turn. If you find one false, say at which input.
  Laid BY PROGRAM, IN A SANDBOX (cutbox-rows.mjs): the forced cells as the released guide's own fill.sh prints them over the translation 4a21ed271f539d67… (all of the seat's roots in one cut). By AI agents, Wed Nov 11 2026. No macro, syntax, notation, axiom, sorry.
-/
import Derived.Test.YtnjchlggjdoboaaChecked
import GoSem.Claim
import GoSem.ClaimJoined
import GoSem.ClaimMapViews
import Derived.JoinedTies
import Derived.KernelRfl
namespace Go.Proofs.Ytnjchlggjdoboaa
/- THE CELL 'sum', in the pinned program and in every row, IS THE sha256 OF THE DUMP (.gsa) THAT YtnjchlggjdoboaaProg.lean LOADS. Nothing in Lean hashes anything: it is a label: what it is worth is what the hold of that sum in a sandbox is worth. -/
noncomputable def Try.pinned : Pinned := { name := "ytnjchlggjdoboaa", sum := "4a21ed271f539d67f401dbd8eace589a4f0530d9c0b279ab67cd2705fd2eb27b", checked := Try.checked }
namespace Rows
def none {H : Type} : Left H := { results := [], args := [] }

/-- 'dioramalaw26.ConsentLimits': WHATEVER THE INPUT: true; the input reads as it did. -/
def consentLimitsSpec : ChangeSpec := { name := "consentLimits", fn := fun _ => fun
  | [d1, d2] => { results := [.lit (.bool true)], args := [d1, d2] }
  | _ => none }
def consentLimitsRow : OpenClaim := { program := "ytnjchlggjdoboaa", sum := "4a21ed271f539d67f401dbd8eace589a4f0530d9c0b279ab67cd2705fd2eb27b", func := "diorama/dioramalaw26.ConsentLimits", spec := "consentLimits", unfollowed := true, recurses := true, apart := false }
def ConsentLimitsSaid : Prop := consentLimitsRow.holds Try.pinned (OpenSpec.ofChange consentLimitsSpec)

/-- ITS FALSE NEIGHBOUR: 'it returns false'. Refute it at one input. -/
def consentLimitsWrong : ChangeSpec := { name := "consentLimits", fn := fun _ => fun
  | [d1, d2] => { results := [.lit (.bool false)], args := [d1, d2] }
  | _ => none }
def ConsentLimitsWrongFalsely : Prop := consentLimitsRow.holds Try.pinned (OpenSpec.ofChange consentLimitsWrong)

/-- 'dioramalaw26.ConsentRemoved': WHATEVER THE INPUT: true; the input reads as it did. -/
def consentRemovedSpec : ChangeSpec := { name := "consentRemoved", fn := fun _ => fun
  | [d] => { results := [.lit (.bool true)], args := [d] }
  | _ => none }
def consentRemovedRow : OpenClaim := { program := "ytnjchlggjdoboaa", sum := "4a21ed271f539d67f401dbd8eace589a4f0530d9c0b279ab67cd2705fd2eb27b", func := "diorama/dioramalaw26.ConsentRemoved", spec := "consentRemoved", unfollowed := true, recurses := true, apart := false }
def ConsentRemovedSaid : Prop := consentRemovedRow.holds Try.pinned (OpenSpec.ofChange consentRemovedSpec)

/-- ITS FALSE NEIGHBOUR: 'it returns false'. Refute it at one input. -/
def consentRemovedWrong : ChangeSpec := { name := "consentRemoved", fn := fun _ => fun
  | [d] => { results := [.lit (.bool false)], args := [d] }
  | _ => none }
def ConsentRemovedWrongFalsely : Prop := consentRemovedRow.holds Try.pinned (OpenSpec.ofChange consentRemovedWrong)

/-- 'dioramalaw26.ConsentAnew': WHATEVER THE INPUT: true; the input reads as it did. -/
def consentAnewSpec : ChangeSpec := { name := "consentAnew", fn := fun _ => fun
  | [d] => { results := [.lit (.bool true)], args := [d] }
  | _ => none }
def consentAnewRow : OpenClaim := { program := "ytnjchlggjdoboaa", sum := "4a21ed271f539d67f401dbd8eace589a4f0530d9c0b279ab67cd2705fd2eb27b", func := "diorama/dioramalaw26.ConsentAnew", spec := "consentAnew", unfollowed := true, recurses := true, apart := false }
def ConsentAnewSaid : Prop := consentAnewRow.holds Try.pinned (OpenSpec.ofChange consentAnewSpec)

/-- ITS FALSE NEIGHBOUR: 'it returns false'. Refute it at one input. -/
def consentAnewWrong : ChangeSpec := { name := "consentAnew", fn := fun _ => fun
  | [d] => { results := [.lit (.bool false)], args := [d] }
  | _ => none }
def ConsentAnewWrongFalsely : Prop := consentAnewRow.holds Try.pinned (OpenSpec.ofChange consentAnewWrong)

/-- 'dioramalaw26.ConsentRuns': WHATEVER THE INPUT: true; the input reads as it did. -/
def consentRunsSpec : ChangeSpec := { name := "consentRuns", fn := fun _ => fun
  | [d1, d2, d3, d4] => { results := [.lit (.bool true)], args := [d1, d2, d3, d4] }
  | _ => none }
def consentRunsRow : OpenClaim := { program := "ytnjchlggjdoboaa", sum := "4a21ed271f539d67f401dbd8eace589a4f0530d9c0b279ab67cd2705fd2eb27b", func := "diorama/dioramalaw26.ConsentRuns", spec := "consentRuns", inPlace := ["maps.clone"], unfollowed := true, recurses := true, apart := false }
def ConsentRunsSaid : Prop := consentRunsRow.holds Try.pinned (OpenSpec.ofChange consentRunsSpec)

/-- ITS FALSE NEIGHBOUR: 'it returns false'. Refute it at one input. -/
def consentRunsWrong : ChangeSpec := { name := "consentRuns", fn := fun _ => fun
  | [d1, d2, d3, d4] => { results := [.lit (.bool false)], args := [d1, d2, d3, d4] }
  | _ => none }
def ConsentRunsWrongFalsely : Prop := consentRunsRow.holds Try.pinned (OpenSpec.ofChange consentRunsWrong)

/-- 'dioramalaw26.ConsentTables': WHATEVER THE INPUT: true; the input reads as it did. -/
def consentTablesSpec : ChangeSpec := { name := "consentTables", fn := fun _ => fun
  | [d1, d2] => { results := [.lit (.bool true)], args := [d1, d2] }
  | _ => none }
def consentTablesRow : OpenClaim := { program := "ytnjchlggjdoboaa", sum := "4a21ed271f539d67f401dbd8eace589a4f0530d9c0b279ab67cd2705fd2eb27b", func := "diorama/dioramalaw26.ConsentTables", spec := "consentTables", unfollowed := true, recurses := true, apart := false }
def ConsentTablesSaid : Prop := consentTablesRow.holds Try.pinned (OpenSpec.ofChange consentTablesSpec)

/-- ITS FALSE NEIGHBOUR: 'it returns false'. Refute it at one input. -/
def consentTablesWrong : ChangeSpec := { name := "consentTables", fn := fun _ => fun
  | [d1, d2] => { results := [.lit (.bool false)], args := [d1, d2] }
  | _ => none }
def ConsentTablesWrongFalsely : Prop := consentTablesRow.holds Try.pinned (OpenSpec.ofChange consentTablesWrong)

/- THE SECOND FORM. 'bulk': how many values and letters a reading holds, each counted each time it is reached (what is shared counts as often as it is met; a slice's spare places count too). A statement '..UptoSaid' is the law's where the arguments, and the package variables that the reading takes, are together of bulk at most 1048576: NARROWER than '..Said'. Prove '..Said' where nothing that the law and all that it calls make is longer than what came in: it says more and counts as full. Else prove '..UptoSaid'. A law counts once. -/
mutual
def uptoBulk {H : Type} : DataW H → Nat
  | .lit (.string bytes) => bytes.length + 1
  | .lit _ => 1
  | .nil => 1
  | .ptr d => uptoBulk d + 1
  | .slice elems spare => uptoBulkAll elems + uptoBulkAll spare + 1
  | .agg parts => uptoBulkAll parts + 1
  | .iface _ d => uptoBulk d + 1
  | .map entries => uptoBulkEntries entries + 1
  | .held _ => 1
def uptoBulkAll {H : Type} : List (DataW H) → Nat
  | [] => 0
  | d :: r => uptoBulk d + uptoBulkAll r
def uptoBulkEntries {H : Type} : List (Lit × DataW H) → Nat
  | [] => 0
  | x :: r => uptoBulkEntry x + uptoBulkEntries r
def uptoBulkEntry {H : Type} : Lit × DataW H → Nat
  | (.string bytes, d) => bytes.length + uptoBulk d + 1
  | (_, d) => uptoBulk d + 1
 end
def uptoSmall : (H : Type) → List (DataW H) → Bool := fun _ ds => decide (uptoBulkAll ds ≤ 1048576)
def OpenSpec.upto (s : _root_.Go.ChangeSpec) : _root_.Go.OpenSpec := { _root_.Go.OpenSpec.ofChange s with cond := some uptoSmall }

/-- 'dioramalaw26.ConsentLimits', WHERE WHAT IT READS IS OF BULK AT MOST 1048576: true; the input reads as it did. -/
def consentLimitsUptoRow : OpenClaim := { program := "ytnjchlggjdoboaa", sum := "4a21ed271f539d67f401dbd8eace589a4f0530d9c0b279ab67cd2705fd2eb27b", func := "diorama/dioramalaw26.ConsentLimits", spec := "consentLimits", unfollowed := true, recurses := true, apart := false, narrowed := true }
def ConsentLimitsUptoSaid : Prop := consentLimitsUptoRow.holds Try.pinned (OpenSpec.upto consentLimitsSpec)

/-- 'dioramalaw26.ConsentRemoved', WHERE WHAT IT READS IS OF BULK AT MOST 1048576: true; the input reads as it did. -/
def consentRemovedUptoRow : OpenClaim := { program := "ytnjchlggjdoboaa", sum := "4a21ed271f539d67f401dbd8eace589a4f0530d9c0b279ab67cd2705fd2eb27b", func := "diorama/dioramalaw26.ConsentRemoved", spec := "consentRemoved", unfollowed := true, recurses := true, apart := false, narrowed := true }
def ConsentRemovedUptoSaid : Prop := consentRemovedUptoRow.holds Try.pinned (OpenSpec.upto consentRemovedSpec)

/-- 'dioramalaw26.ConsentAnew', WHERE WHAT IT READS IS OF BULK AT MOST 1048576: true; the input reads as it did. -/
def consentAnewUptoRow : OpenClaim := { program := "ytnjchlggjdoboaa", sum := "4a21ed271f539d67f401dbd8eace589a4f0530d9c0b279ab67cd2705fd2eb27b", func := "diorama/dioramalaw26.ConsentAnew", spec := "consentAnew", unfollowed := true, recurses := true, apart := false, narrowed := true }
def ConsentAnewUptoSaid : Prop := consentAnewUptoRow.holds Try.pinned (OpenSpec.upto consentAnewSpec)

/-- 'dioramalaw26.ConsentRuns', WHERE WHAT IT READS IS OF BULK AT MOST 1048576: true; the input reads as it did. -/
def consentRunsUptoRow : OpenClaim := { program := "ytnjchlggjdoboaa", sum := "4a21ed271f539d67f401dbd8eace589a4f0530d9c0b279ab67cd2705fd2eb27b", func := "diorama/dioramalaw26.ConsentRuns", spec := "consentRuns", inPlace := ["maps.clone"], unfollowed := true, recurses := true, apart := false, narrowed := true }
def ConsentRunsUptoSaid : Prop := consentRunsUptoRow.holds Try.pinned (OpenSpec.upto consentRunsSpec)

/-- 'dioramalaw26.ConsentTables', WHERE WHAT IT READS IS OF BULK AT MOST 1048576: true; the input reads as it did. -/
def consentTablesUptoRow : OpenClaim := { program := "ytnjchlggjdoboaa", sum := "4a21ed271f539d67f401dbd8eace589a4f0530d9c0b279ab67cd2705fd2eb27b", func := "diorama/dioramalaw26.ConsentTables", spec := "consentTables", unfollowed := true, recurses := true, apart := false, narrowed := true }
def ConsentTablesUptoSaid : Prop := consentTablesUptoRow.holds Try.pinned (OpenSpec.upto consentTablesSpec)

end Rows
end Go.Proofs.Ytnjchlggjdoboaa
