/-
  No cell of these rows narrows 'for every input' (looked for: loops, veiled, ifaces, maps, wideKeys, modest, calm, conditions, laid).
  DERIVED. THE GIVEN ROWS OF THIS SEAT. 6 by the template 'for every input the law returns true; each argument reads behind the call as it read before'; 0 by the template 'total and deterministic' (their statements: YtnehadphaakepaaTotals.lean).
  GIVEN WITH THE SEED: the statements are not yours to turn. If you find one false, say at which input.
  Laid BY PROGRAM, IN A SANDBOX (cutbox-rows.mjs): the forced cells as the released guide's own fill.sh prints them over the translation 1c28658d687d76a2… (all of the seat's roots in one cut). By AI agents, Wed Nov 11 2026. No macro, syntax, notation, axiom, sorry.
-/
import Derived.Test.YtnehadphaakepaaChecked
import GoSem.Claim
import GoSem.ClaimJoined
import GoSem.ClaimMapViews
import Derived.JoinedTies
import Derived.KernelRfl
namespace Go.Proofs.Ytnehadphaakepaa
/- THE CELL 'sum', in the pinned program and in every row, IS THE sha256 OF THE DUMP (.gsa) THAT YtnehadphaakepaaProg.lean LOADS. Nothing in Lean hashes anything: it is a label: what it is worth is what the hold of that sum in a sandbox is worth. -/
noncomputable def Try.pinned : Pinned := { name := "ytnehadphaakepaa", sum := "1c28658d687d76a255cd4890ff95474eb17602b617352bc672423acaaf6e426c", checked := Try.checked }
namespace Rows
def none {H : Type} : Left H := { results := [], args := [] }

/-- 'dioramalaw41.DiskMatchesSpec': WHATEVER THE INPUT: true; the input reads as it did. -/
def diskMatchesSpecSpec : ChangeSpec := { name := "diskMatchesSpec", fn := fun _ => fun
  | [d1, d2] => { results := [.lit (.bool true)], args := [d1, d2] }
  | _ => none }
def diskMatchesSpecRow : OpenClaim := { program := "ytnehadphaakepaa", sum := "1c28658d687d76a255cd4890ff95474eb17602b617352bc672423acaaf6e426c", func := "diorama/dioramalaw41.DiskMatchesSpec", spec := "diskMatchesSpec", inPlace := ["maps.clone"], unfollowed := true, recurses := true, apart := false }
def DiskMatchesSpecSaid : Prop := diskMatchesSpecRow.holds Try.pinned (OpenSpec.ofChange diskMatchesSpecSpec)

/-- ITS FALSE NEIGHBOUR: 'it returns false'. Refute it at one input. -/
def diskMatchesSpecWrong : ChangeSpec := { name := "diskMatchesSpec", fn := fun _ => fun
  | [d1, d2] => { results := [.lit (.bool false)], args := [d1, d2] }
  | _ => none }
def DiskMatchesSpecWrongFalsely : Prop := diskMatchesSpecRow.holds Try.pinned (OpenSpec.ofChange diskMatchesSpecWrong)

/-- 'dioramalaw41.DiskRefusesSizes': WHATEVER THE INPUT: true; the input reads as it did. -/
def diskRefusesSizesSpec : ChangeSpec := { name := "diskRefusesSizes", fn := fun _ => fun
  | [d1, d2, d3] => { results := [.lit (.bool true)], args := [d1, d2, d3] }
  | _ => none }
def diskRefusesSizesRow : OpenClaim := { program := "ytnehadphaakepaa", sum := "1c28658d687d76a255cd4890ff95474eb17602b617352bc672423acaaf6e426c", func := "diorama/dioramalaw41.DiskRefusesSizes", spec := "diskRefusesSizes", inPlace := ["maps.clone"], unfollowed := true, recurses := true, apart := false }
def DiskRefusesSizesSaid : Prop := diskRefusesSizesRow.holds Try.pinned (OpenSpec.ofChange diskRefusesSizesSpec)

/-- ITS FALSE NEIGHBOUR: 'it returns false'. Refute it at one input. -/
def diskRefusesSizesWrong : ChangeSpec := { name := "diskRefusesSizes", fn := fun _ => fun
  | [d1, d2, d3] => { results := [.lit (.bool false)], args := [d1, d2, d3] }
  | _ => none }
def DiskRefusesSizesWrongFalsely : Prop := diskRefusesSizesRow.holds Try.pinned (OpenSpec.ofChange diskRefusesSizesWrong)

/-- 'dioramalaw41.DiskKeepsWhatWasFlushed': WHATEVER THE INPUT: true; the input reads as it did. -/
def diskKeepsWhatWasFlushedSpec : ChangeSpec := { name := "diskKeepsWhatWasFlushed", fn := fun _ => fun
  | [d1, d2, d3] => { results := [.lit (.bool true)], args := [d1, d2, d3] }
  | _ => none }
def diskKeepsWhatWasFlushedRow : OpenClaim := { program := "ytnehadphaakepaa", sum := "1c28658d687d76a255cd4890ff95474eb17602b617352bc672423acaaf6e426c", func := "diorama/dioramalaw41.DiskKeepsWhatWasFlushed", spec := "diskKeepsWhatWasFlushed", inPlace := ["maps.clone"], unfollowed := true, recurses := true, apart := false }
def DiskKeepsWhatWasFlushedSaid : Prop := diskKeepsWhatWasFlushedRow.holds Try.pinned (OpenSpec.ofChange diskKeepsWhatWasFlushedSpec)

/-- ITS FALSE NEIGHBOUR: 'it returns false'. Refute it at one input. -/
def diskKeepsWhatWasFlushedWrong : ChangeSpec := { name := "diskKeepsWhatWasFlushed", fn := fun _ => fun
  | [d1, d2, d3] => { results := [.lit (.bool false)], args := [d1, d2, d3] }
  | _ => none }
def DiskKeepsWhatWasFlushedWrongFalsely : Prop := diskKeepsWhatWasFlushedRow.holds Try.pinned (OpenSpec.ofChange diskKeepsWhatWasFlushedWrong)

/-- 'dioramalaw41.DiskTears': WHATEVER THE INPUT: true; the input reads as it did. -/
def diskTearsSpec : ChangeSpec := { name := "diskTears", fn := fun _ => fun
  | [d1, d2, d3] => { results := [.lit (.bool true)], args := [d1, d2, d3] }
  | _ => none }
def diskTearsRow : OpenClaim := { program := "ytnehadphaakepaa", sum := "1c28658d687d76a255cd4890ff95474eb17602b617352bc672423acaaf6e426c", func := "diorama/dioramalaw41.DiskTears", spec := "diskTears", inPlace := ["maps.clone"], unfollowed := true, recurses := true, apart := false }
def DiskTearsSaid : Prop := diskTearsRow.holds Try.pinned (OpenSpec.ofChange diskTearsSpec)

/-- ITS FALSE NEIGHBOUR: 'it returns false'. Refute it at one input. -/
def diskTearsWrong : ChangeSpec := { name := "diskTears", fn := fun _ => fun
  | [d1, d2, d3] => { results := [.lit (.bool false)], args := [d1, d2, d3] }
  | _ => none }
def DiskTearsWrongFalsely : Prop := diskTearsRow.holds Try.pinned (OpenSpec.ofChange diskTearsWrong)

/-- 'dioramalaw41.DiskRots': WHATEVER THE INPUT: true; the input reads as it did. -/
def diskRotsSpec : ChangeSpec := { name := "diskRots", fn := fun _ => fun
  | [d1, d2, d3, d4] => { results := [.lit (.bool true)], args := [d1, d2, d3, d4] }
  | _ => none }
def diskRotsRow : OpenClaim := { program := "ytnehadphaakepaa", sum := "1c28658d687d76a255cd4890ff95474eb17602b617352bc672423acaaf6e426c", func := "diorama/dioramalaw41.DiskRots", spec := "diskRots", inPlace := ["maps.clone"], unfollowed := true, recurses := true, apart := false }
def DiskRotsSaid : Prop := diskRotsRow.holds Try.pinned (OpenSpec.ofChange diskRotsSpec)

/-- ITS FALSE NEIGHBOUR: 'it returns false'. Refute it at one input. -/
def diskRotsWrong : ChangeSpec := { name := "diskRots", fn := fun _ => fun
  | [d1, d2, d3, d4] => { results := [.lit (.bool false)], args := [d1, d2, d3, d4] }
  | _ => none }
def DiskRotsWrongFalsely : Prop := diskRotsRow.holds Try.pinned (OpenSpec.ofChange diskRotsWrong)

/-- 'dioramalaw41.DiskClones': WHATEVER THE INPUT: true; the input reads as it did. -/
def diskClonesSpec : ChangeSpec := { name := "diskClones", fn := fun _ => fun
  | [d1, d2, d3, d4] => { results := [.lit (.bool true)], args := [d1, d2, d3, d4] }
  | _ => none }
def diskClonesRow : OpenClaim := { program := "ytnehadphaakepaa", sum := "1c28658d687d76a255cd4890ff95474eb17602b617352bc672423acaaf6e426c", func := "diorama/dioramalaw41.DiskClones", spec := "diskClones", inPlace := ["maps.clone"], unfollowed := true, recurses := true, apart := false }
def DiskClonesSaid : Prop := diskClonesRow.holds Try.pinned (OpenSpec.ofChange diskClonesSpec)

/-- ITS FALSE NEIGHBOUR: 'it returns false'. Refute it at one input. -/
def diskClonesWrong : ChangeSpec := { name := "diskClones", fn := fun _ => fun
  | [d1, d2, d3, d4] => { results := [.lit (.bool false)], args := [d1, d2, d3, d4] }
  | _ => none }
def DiskClonesWrongFalsely : Prop := diskClonesRow.holds Try.pinned (OpenSpec.ofChange diskClonesWrong)

/- THE SECOND FORM. 'bulk': how many values and letters a reading holds, each counted each time it is reached (what is shared counts as often as it is met; a slice's spare places count too). A statement '..UptoSaid' is the law's where the arguments, and the package variables that the reading takes, are together of bulk at most 1048576: NARROWER than '..Said'. Prove '..Said' where nothing that the law and all that it calls make is longer than what came in: it says more and counts as full. Else prove '..UptoSaid'. A law counts once. -/
mutual
def uptoBulk {H : Type} : DataW H → Nat
  | .lit (.string bytes) => bytes.length + 1
  | .lit _ => 1
  | .nil => 1
  | .ptr d => uptoBulk d + 1
  | .slice elems spare => uptoBulkAll elems + uptoBulkAll spare + 1
  | .agg parts => uptoBulkAll parts + 1
  | .iface _ d => uptoBulk d + 1
  | .map entries => uptoBulkEntries entries + 1
  | .held _ => 1
def uptoBulkAll {H : Type} : List (DataW H) → Nat
  | [] => 0
  | d :: r => uptoBulk d + uptoBulkAll r
def uptoBulkEntries {H : Type} : List (Lit × DataW H) → Nat
  | [] => 0
  | x :: r => uptoBulkEntry x + uptoBulkEntries r
def uptoBulkEntry {H : Type} : Lit × DataW H → Nat
  | (.string bytes, d) => bytes.length + uptoBulk d + 1
  | (_, d) => uptoBulk d + 1
 end
def uptoSmall : (H : Type) → List (DataW H) → Bool := fun _ ds => decide (uptoBulkAll ds ≤ 1048576)
def OpenSpec.upto (s : _root_.Go.ChangeSpec) : _root_.Go.OpenSpec := { _root_.Go.OpenSpec.ofChange s with cond := some uptoSmall }

/-- 'dioramalaw41.DiskMatchesSpec', WHERE WHAT IT READS IS OF BULK AT MOST 1048576: true; the input reads as it did. -/
def diskMatchesSpecUptoRow : OpenClaim := { program := "ytnehadphaakepaa", sum := "1c28658d687d76a255cd4890ff95474eb17602b617352bc672423acaaf6e426c", func := "diorama/dioramalaw41.DiskMatchesSpec", spec := "diskMatchesSpec", inPlace := ["maps.clone"], unfollowed := true, recurses := true, apart := false, narrowed := true }
def DiskMatchesSpecUptoSaid : Prop := diskMatchesSpecUptoRow.holds Try.pinned (OpenSpec.upto diskMatchesSpecSpec)

/-- 'dioramalaw41.DiskRefusesSizes', WHERE WHAT IT READS IS OF BULK AT MOST 1048576: true; the input reads as it did. -/
def diskRefusesSizesUptoRow : OpenClaim := { program := "ytnehadphaakepaa", sum := "1c28658d687d76a255cd4890ff95474eb17602b617352bc672423acaaf6e426c", func := "diorama/dioramalaw41.DiskRefusesSizes", spec := "diskRefusesSizes", inPlace := ["maps.clone"], unfollowed := true, recurses := true, apart := false, narrowed := true }
def DiskRefusesSizesUptoSaid : Prop := diskRefusesSizesUptoRow.holds Try.pinned (OpenSpec.upto diskRefusesSizesSpec)

/-- 'dioramalaw41.DiskKeepsWhatWasFlushed', WHERE WHAT IT READS IS OF BULK AT MOST 1048576: true; the input reads as it did. -/
def diskKeepsWhatWasFlushedUptoRow : OpenClaim := { program := "ytnehadphaakepaa", sum := "1c28658d687d76a255cd4890ff95474eb17602b617352bc672423acaaf6e426c", func := "diorama/dioramalaw41.DiskKeepsWhatWasFlushed", spec := "diskKeepsWhatWasFlushed", inPlace := ["maps.clone"], unfollowed := true, recurses := true, apart := false, narrowed := true }
def DiskKeepsWhatWasFlushedUptoSaid : Prop := diskKeepsWhatWasFlushedUptoRow.holds Try.pinned (OpenSpec.upto diskKeepsWhatWasFlushedSpec)

/-- 'dioramalaw41.DiskTears', WHERE WHAT IT READS IS OF BULK AT MOST 1048576: true; the input reads as it did. -/
def diskTearsUptoRow : OpenClaim := { program := "ytnehadphaakepaa", sum := "1c28658d687d76a255cd4890ff95474eb17602b617352bc672423acaaf6e426c", func := "diorama/dioramalaw41.DiskTears", spec := "diskTears", inPlace := ["maps.clone"], unfollowed := true, recurses := true, apart := false, narrowed := true }
def DiskTearsUptoSaid : Prop := diskTearsUptoRow.holds Try.pinned (OpenSpec.upto diskTearsSpec)

/-- 'dioramalaw41.DiskRots', WHERE WHAT IT READS IS OF BULK AT MOST 1048576: true; the input reads as it did. -/
def diskRotsUptoRow : OpenClaim := { program := "ytnehadphaakepaa", sum := "1c28658d687d76a255cd4890ff95474eb17602b617352bc672423acaaf6e426c", func := "diorama/dioramalaw41.DiskRots", spec := "diskRots", inPlace := ["maps.clone"], unfollowed := true, recurses := true, apart := false, narrowed := true }
def DiskRotsUptoSaid : Prop := diskRotsUptoRow.holds Try.pinned (OpenSpec.upto diskRotsSpec)

/-- 'dioramalaw41.DiskClones', WHERE WHAT IT READS IS OF BULK AT MOST 1048576: true; the input reads as it did. -/
def diskClonesUptoRow : OpenClaim := { program := "ytnehadphaakepaa", sum := "1c28658d687d76a255cd4890ff95474eb17602b617352bc672423acaaf6e426c", func := "diorama/dioramalaw41.DiskClones", spec := "diskClones", inPlace := ["maps.clone"], unfollowed := true, recurses := true, apart := false, narrowed := true }
def DiskClonesUptoSaid : Prop := diskClonesUptoRow.holds Try.pinned (OpenSpec.upto diskClonesSpec)

end Rows
end Go.Proofs.Ytnehadphaakepaa
