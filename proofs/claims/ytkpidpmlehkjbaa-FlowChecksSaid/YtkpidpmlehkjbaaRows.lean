/-
  No cell of these rows narrows 'for every input' (looked for: loops, veiled, ifaces, maps, wideKeys, modest, calm, conditions, laid).
  DERIVED. THE GIVEN ROWS OF THIS SEAT. 6 by the template 'for every input the law returns true; each argument reads behind the call as it read before'; 0 by the template 'total and deterministic' (their statements: YtkpidpmlehkjbaaTotals.lean).
  GIVEN WITH THE SEED: the statements are not yours to turn. If you find one false, say at which input.
  Laid BY PROGRAM, IN A SANDBOX (cutbox-rows.mjs): the forced cells as the released guide's own fill.sh prints them over the translation e0f0df9341d483dc… (all of the seat's roots in one cut). By AI agents, Wed Nov 11 2026. No macro, syntax, notation, axiom, sorry.
-/
import Derived.Test.YtkpidpmlehkjbaaChecked
import GoSem.Claim
import GoSem.ClaimJoined
import GoSem.ClaimMapViews
import Derived.JoinedTies
import Derived.KernelRfl
namespace Go.Proofs.Ytkpidpmlehkjbaa
/- THE CELL 'sum', in the pinned program and in every row, IS THE sha256 OF THE DUMP (.gsa) THAT YtkpidpmlehkjbaaProg.lean LOADS. Nothing in Lean hashes anything: it is a label: what it is worth is what the hold of that sum in a sandbox is worth. -/
noncomputable def Try.pinned : Pinned := { name := "ytkpidpmlehkjbaa", sum := "e0f0df9341d483dc7955f3cc333ebc0a13009b6adf693aef85ab2ad86c68d98d", checked := Try.checked }
namespace Rows
def none {H : Type} : Left H := { results := [], args := [] }

/-- 'dioramalaw12.FlowLeast': WHATEVER THE INPUT: true; the input reads as it did. -/
def flowLeastSpec : ChangeSpec := { name := "flowLeast", fn := fun _ => fun
  | [d1, d2, d3, d4, d5] => { results := [.lit (.bool true)], args := [d1, d2, d3, d4, d5] }
  | _ => none }
def flowLeastRow : OpenClaim := { program := "ytkpidpmlehkjbaa", sum := "e0f0df9341d483dc7955f3cc333ebc0a13009b6adf693aef85ab2ad86c68d98d", func := "diorama/dioramalaw12.FlowLeast", spec := "flowLeast", unfollowed := true, recurses := true, apart := false }
def FlowLeastSaid : Prop := flowLeastRow.holds Try.pinned (OpenSpec.ofChange flowLeastSpec)

/-- ITS FALSE NEIGHBOUR: 'it returns false'. Refute it at one input. -/
def flowLeastWrong : ChangeSpec := { name := "flowLeast", fn := fun _ => fun
  | [d1, d2, d3, d4, d5] => { results := [.lit (.bool false)], args := [d1, d2, d3, d4, d5] }
  | _ => none }
def FlowLeastWrongFalsely : Prop := flowLeastRow.holds Try.pinned (OpenSpec.ofChange flowLeastWrong)

/-- 'dioramalaw12.FlowChecks': WHATEVER THE INPUT: true; the input reads as it did. -/
def flowChecksSpec : ChangeSpec := { name := "flowChecks", fn := fun _ => fun
  | [d1, d2, d3, d4, d5] => { results := [.lit (.bool true)], args := [d1, d2, d3, d4, d5] }
  | _ => none }
def flowChecksRow : OpenClaim := { program := "ytkpidpmlehkjbaa", sum := "e0f0df9341d483dc7955f3cc333ebc0a13009b6adf693aef85ab2ad86c68d98d", func := "diorama/dioramalaw12.FlowChecks", spec := "flowChecks", unfollowed := true, recurses := true, apart := false }
def FlowChecksSaid : Prop := flowChecksRow.holds Try.pinned (OpenSpec.ofChange flowChecksSpec)

/-- ITS FALSE NEIGHBOUR: 'it returns false'. Refute it at one input. -/
def flowChecksWrong : ChangeSpec := { name := "flowChecks", fn := fun _ => fun
  | [d1, d2, d3, d4, d5] => { results := [.lit (.bool false)], args := [d1, d2, d3, d4, d5] }
  | _ => none }
def FlowChecksWrongFalsely : Prop := flowChecksRow.holds Try.pinned (OpenSpec.ofChange flowChecksWrong)

/-- 'dioramalaw12.FlowEither': WHATEVER THE INPUT: true; the input reads as it did. -/
def flowEitherSpec : ChangeSpec := { name := "flowEither", fn := fun _ => fun
  | [d] => { results := [.lit (.bool true)], args := [d] }
  | _ => none }
def flowEitherRow : OpenClaim := { program := "ytkpidpmlehkjbaa", sum := "e0f0df9341d483dc7955f3cc333ebc0a13009b6adf693aef85ab2ad86c68d98d", func := "diorama/dioramalaw12.FlowEither", spec := "flowEither", unfollowed := true, recurses := true, apart := false }
def FlowEitherSaid : Prop := flowEitherRow.holds Try.pinned (OpenSpec.ofChange flowEitherSpec)

/-- ITS FALSE NEIGHBOUR: 'it returns false'. Refute it at one input. -/
def flowEitherWrong : ChangeSpec := { name := "flowEither", fn := fun _ => fun
  | [d] => { results := [.lit (.bool false)], args := [d] }
  | _ => none }
def FlowEitherWrongFalsely : Prop := flowEitherRow.holds Try.pinned (OpenSpec.ofChange flowEitherWrong)

/-- 'dioramalaw12.FlowRoom': WHATEVER THE INPUT: true; the input reads as it did. -/
def flowRoomSpec : ChangeSpec := { name := "flowRoom", fn := fun _ => fun
  | [d1, d2, d3] => { results := [.lit (.bool true)], args := [d1, d2, d3] }
  | _ => none }
def flowRoomRow : OpenClaim := { program := "ytkpidpmlehkjbaa", sum := "e0f0df9341d483dc7955f3cc333ebc0a13009b6adf693aef85ab2ad86c68d98d", func := "diorama/dioramalaw12.FlowRoom", spec := "flowRoom", unfollowed := true, recurses := true, apart := false }
def FlowRoomSaid : Prop := flowRoomRow.holds Try.pinned (OpenSpec.ofChange flowRoomSpec)

/-- ITS FALSE NEIGHBOUR: 'it returns false'. Refute it at one input. -/
def flowRoomWrong : ChangeSpec := { name := "flowRoom", fn := fun _ => fun
  | [d1, d2, d3] => { results := [.lit (.bool false)], args := [d1, d2, d3] }
  | _ => none }
def FlowRoomWrongFalsely : Prop := flowRoomRow.holds Try.pinned (OpenSpec.ofChange flowRoomWrong)

/-- 'dioramalaw12.FlowApart': WHATEVER THE INPUT: true; the input reads as it did. -/
def flowApartSpec : ChangeSpec := { name := "flowApart", fn := fun _ => fun
  | [d1, d2] => { results := [.lit (.bool true)], args := [d1, d2] }
  | _ => none }
def flowApartRow : OpenClaim := { program := "ytkpidpmlehkjbaa", sum := "e0f0df9341d483dc7955f3cc333ebc0a13009b6adf693aef85ab2ad86c68d98d", func := "diorama/dioramalaw12.FlowApart", spec := "flowApart", unfollowed := true, recurses := true, apart := false }
def FlowApartSaid : Prop := flowApartRow.holds Try.pinned (OpenSpec.ofChange flowApartSpec)

/-- ITS FALSE NEIGHBOUR: 'it returns false'. Refute it at one input. -/
def flowApartWrong : ChangeSpec := { name := "flowApart", fn := fun _ => fun
  | [d1, d2] => { results := [.lit (.bool false)], args := [d1, d2] }
  | _ => none }
def FlowApartWrongFalsely : Prop := flowApartRow.holds Try.pinned (OpenSpec.ofChange flowApartWrong)

/-- 'dioramalaw12.FlowScaled': WHATEVER THE INPUT: true; the input reads as it did. -/
def flowScaledSpec : ChangeSpec := { name := "flowScaled", fn := fun _ => fun
  | [d1, d2, d3] => { results := [.lit (.bool true)], args := [d1, d2, d3] }
  | _ => none }
def flowScaledRow : OpenClaim := { program := "ytkpidpmlehkjbaa", sum := "e0f0df9341d483dc7955f3cc333ebc0a13009b6adf693aef85ab2ad86c68d98d", func := "diorama/dioramalaw12.FlowScaled", spec := "flowScaled", unfollowed := true, recurses := true, apart := false }
def FlowScaledSaid : Prop := flowScaledRow.holds Try.pinned (OpenSpec.ofChange flowScaledSpec)

/-- ITS FALSE NEIGHBOUR: 'it returns false'. Refute it at one input. -/
def flowScaledWrong : ChangeSpec := { name := "flowScaled", fn := fun _ => fun
  | [d1, d2, d3] => { results := [.lit (.bool false)], args := [d1, d2, d3] }
  | _ => none }
def FlowScaledWrongFalsely : Prop := flowScaledRow.holds Try.pinned (OpenSpec.ofChange flowScaledWrong)

/- THE SECOND FORM. 'bulk': how many values and letters a reading holds, each counted each time it is reached (what is shared counts as often as it is met; a slice's spare places count too). A statement '..UptoSaid' is the law's where the arguments, and the package variables that the reading takes, are together of bulk at most 1048576: NARROWER than '..Said'. Prove '..Said' where nothing that the law and all that it calls make is longer than what came in: it says more and counts as full. Else prove '..UptoSaid'. A law counts once. -/
mutual
def uptoBulk {H : Type} : DataW H → Nat
  | .lit (.string bytes) => bytes.length + 1
  | .lit _ => 1
  | .nil => 1
  | .ptr d => uptoBulk d + 1
  | .slice elems spare => uptoBulkAll elems + uptoBulkAll spare + 1
  | .agg parts => uptoBulkAll parts + 1
  | .iface _ d => uptoBulk d + 1
  | .map entries => uptoBulkEntries entries + 1
  | .held _ => 1
def uptoBulkAll {H : Type} : List (DataW H) → Nat
  | [] => 0
  | d :: r => uptoBulk d + uptoBulkAll r
def uptoBulkEntries {H : Type} : List (Lit × DataW H) → Nat
  | [] => 0
  | x :: r => uptoBulkEntry x + uptoBulkEntries r
def uptoBulkEntry {H : Type} : Lit × DataW H → Nat
  | (.string bytes, d) => bytes.length + uptoBulk d + 1
  | (_, d) => uptoBulk d + 1
 end
def uptoSmall : (H : Type) → List (DataW H) → Bool := fun _ ds => decide (uptoBulkAll ds ≤ 1048576)
def OpenSpec.upto (s : _root_.Go.ChangeSpec) : _root_.Go.OpenSpec := { _root_.Go.OpenSpec.ofChange s with cond := some uptoSmall }

/-- 'dioramalaw12.FlowLeast', WHERE WHAT IT READS IS OF BULK AT MOST 1048576: true; the input reads as it did. -/
def flowLeastUptoRow : OpenClaim := { program := "ytkpidpmlehkjbaa", sum := "e0f0df9341d483dc7955f3cc333ebc0a13009b6adf693aef85ab2ad86c68d98d", func := "diorama/dioramalaw12.FlowLeast", spec := "flowLeast", unfollowed := true, recurses := true, apart := false, narrowed := true }
def FlowLeastUptoSaid : Prop := flowLeastUptoRow.holds Try.pinned (OpenSpec.upto flowLeastSpec)

/-- 'dioramalaw12.FlowChecks', WHERE WHAT IT READS IS OF BULK AT MOST 1048576: true; the input reads as it did. -/
def flowChecksUptoRow : OpenClaim := { program := "ytkpidpmlehkjbaa", sum := "e0f0df9341d483dc7955f3cc333ebc0a13009b6adf693aef85ab2ad86c68d98d", func := "diorama/dioramalaw12.FlowChecks", spec := "flowChecks", unfollowed := true, recurses := true, apart := false, narrowed := true }
def FlowChecksUptoSaid : Prop := flowChecksUptoRow.holds Try.pinned (OpenSpec.upto flowChecksSpec)

/-- 'dioramalaw12.FlowEither', WHERE WHAT IT READS IS OF BULK AT MOST 1048576: true; the input reads as it did. -/
def flowEitherUptoRow : OpenClaim := { program := "ytkpidpmlehkjbaa", sum := "e0f0df9341d483dc7955f3cc333ebc0a13009b6adf693aef85ab2ad86c68d98d", func := "diorama/dioramalaw12.FlowEither", spec := "flowEither", unfollowed := true, recurses := true, apart := false, narrowed := true }
def FlowEitherUptoSaid : Prop := flowEitherUptoRow.holds Try.pinned (OpenSpec.upto flowEitherSpec)

/-- 'dioramalaw12.FlowRoom', WHERE WHAT IT READS IS OF BULK AT MOST 1048576: true; the input reads as it did. -/
def flowRoomUptoRow : OpenClaim := { program := "ytkpidpmlehkjbaa", sum := "e0f0df9341d483dc7955f3cc333ebc0a13009b6adf693aef85ab2ad86c68d98d", func := "diorama/dioramalaw12.FlowRoom", spec := "flowRoom", unfollowed := true, recurses := true, apart := false, narrowed := true }
def FlowRoomUptoSaid : Prop := flowRoomUptoRow.holds Try.pinned (OpenSpec.upto flowRoomSpec)

/-- 'dioramalaw12.FlowApart', WHERE WHAT IT READS IS OF BULK AT MOST 1048576: true; the input reads as it did. -/
def flowApartUptoRow : OpenClaim := { program := "ytkpidpmlehkjbaa", sum := "e0f0df9341d483dc7955f3cc333ebc0a13009b6adf693aef85ab2ad86c68d98d", func := "diorama/dioramalaw12.FlowApart", spec := "flowApart", unfollowed := true, recurses := true, apart := false, narrowed := true }
def FlowApartUptoSaid : Prop := flowApartUptoRow.holds Try.pinned (OpenSpec.upto flowApartSpec)

/-- 'dioramalaw12.FlowScaled', WHERE WHAT IT READS IS OF BULK AT MOST 1048576: true; the input reads as it did. -/
def flowScaledUptoRow : OpenClaim := { program := "ytkpidpmlehkjbaa", sum := "e0f0df9341d483dc7955f3cc333ebc0a13009b6adf693aef85ab2ad86c68d98d", func := "diorama/dioramalaw12.FlowScaled", spec := "flowScaled", unfollowed := true, recurses := true, apart := false, narrowed := true }
def FlowScaledUptoSaid : Prop := flowScaledUptoRow.holds Try.pinned (OpenSpec.upto flowScaledSpec)

end Rows
end Go.Proofs.Ytkpidpmlehkjbaa
