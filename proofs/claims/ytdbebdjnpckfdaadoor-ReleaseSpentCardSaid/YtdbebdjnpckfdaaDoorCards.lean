/-
  DERIVED. GIVEN WITH THE SEED: THE CARDS: each row of YtdbebdjnpckfdaaDoorRows.lean that lists a variable, with what it lists TIED to the program's text (the seventh form; the later family's looks); each row that meets fmt, with fmt's text TOLD by the authors' own Lean function (tested against real Go, not proved from fmt's source: count such statements apart). THE CARD IS WHAT COUNTS. Prove the row's statement (the work); the ties are given (YtdbebdjnpckfdaaDoorTie.lean); close each card by the builder's one call (the guide's Derived/Test/ToyasCard.lean, 'card_holds'). Laid BY PROGRAM, IN A SANDBOX (cutbox-door.mjs). By AI agents, Wed Nov 11 2026. No macro, syntax, notation, axiom, sorry.
-/
import Derived.Test.YtdbebdjnpckfdaaDoorRows
import GoSem.ClaimSeven
namespace Go.Proofs.YtdbebdjnpckfdaaDoor
namespace Rows

/-- THE TIED CARD OF 'dioramalaw25.ReleaseRefused'. -/
def releaseRefusedCard : Claim7 := { stood := { row := releaseRefusedRow, standIns := [], harness := (true, "bfea3dd87b4682f0cb254c22c853d40d2d5042c9917efb80f27acfe0c64522b5"), looks := true }, kinds := [], alts := [], laidByText := true, laidKinds := [.data], laidTests := true, laidLooks := .later }
def ReleaseRefusedCardSaid : Prop := Claim7.holds Tryd.pinned (.plain (OpenSpec.ofChange releaseRefusedSpec)) releaseRefusedCard

/-- THE TIED CARD OF 'dioramalaw25.ReleaseSpent'. -/
def releaseSpentCard : Claim7 := { stood := { row := releaseSpentRow, standIns := [], harness := (true, "bfea3dd87b4682f0cb254c22c853d40d2d5042c9917efb80f27acfe0c64522b5"), looks := true }, kinds := [], alts := [], laidByText := true, laidKinds := [.data], laidTests := true, laidLooks := .later }
def ReleaseSpentCardSaid : Prop := Claim7.holds Tryd.pinned (.plain (OpenSpec.ofChange releaseSpentSpec)) releaseSpentCard

/-- THE SECOND FORM's CARD OF 'dioramalaw25.ReleaseRefused'. -/
def releaseRefusedUptoCard : Claim7 := { stood := { row := releaseRefusedUptoRow, standIns := [], harness := (true, "bfea3dd87b4682f0cb254c22c853d40d2d5042c9917efb80f27acfe0c64522b5"), looks := true }, kinds := [], alts := [], laidByText := true, laidKinds := [.data], laidTests := true, laidLooks := .later }
def ReleaseRefusedUptoCardSaid : Prop := Claim7.holds Tryd.pinned (.plain (OpenSpec.upto releaseRefusedSpec)) releaseRefusedUptoCard

/-- THE SECOND FORM's CARD OF 'dioramalaw25.ReleaseSpent'. -/
def releaseSpentUptoCard : Claim7 := { stood := { row := releaseSpentUptoRow, standIns := [], harness := (true, "bfea3dd87b4682f0cb254c22c853d40d2d5042c9917efb80f27acfe0c64522b5"), looks := true }, kinds := [], alts := [], laidByText := true, laidKinds := [.data], laidTests := true, laidLooks := .later }
def ReleaseSpentUptoCardSaid : Prop := Claim7.holds Tryd.pinned (.plain (OpenSpec.upto releaseSpentSpec)) releaseSpentUptoCard
end Rows
end Go.Proofs.YtdbebdjnpckfdaaDoor
