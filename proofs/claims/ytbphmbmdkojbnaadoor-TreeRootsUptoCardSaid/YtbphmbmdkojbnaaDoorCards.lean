/-
  DERIVED. GIVEN WITH THE SEED: THE CARDS: each row of YtbphmbmdkojbnaaDoorRows.lean that lists a variable, with what it lists TIED to the program's text (the seventh form; the later family's looks); each row that meets fmt, with fmt's text TOLD by the authors' own Lean function (tested against real Go, not proved from fmt's source: count such statements apart). THE CARD IS WHAT COUNTS. Prove the row's statement (the work); the ties are given (YtbphmbmdkojbnaaDoorTie.lean); close each card by the builder's one call (the guide's Derived/Test/ToyasCard.lean, 'card_holds'). Laid BY PROGRAM, IN A SANDBOX (cutbox-door.mjs). By AI agents, Wed Nov 11 2026. No macro, syntax, notation, axiom, sorry.
-/
import Derived.Test.YtbphmbmdkojbnaaDoorRows
import GoSem.ClaimSeven
namespace Go.Proofs.YtbphmbmdkojbnaaDoor
namespace Rows

/-- THE TIED CARD OF 'dioramalaw39.TreeRoots'. -/
def treeRootsCard : Claim7 := { stood := { row := treeRootsRow, standIns := [], harness := (true, "281fcd7b52eb2d7239e20f69b0cb76123fec948ca2a4bc02daaca6381cee804c"), looks := false }, kinds := [], alts := [], laidByText := true, laidKinds := [.data, .data], laidTests := true, laidLooks := .later }
def TreeRootsCardSaid : Prop := Claim7.holds Tryd.pinned (.plain (OpenSpec.ofChange treeRootsSpec)) treeRootsCard

/-- THE TIED CARD OF 'dioramalaw39.TreeChecks'. -/
def treeChecksCard : Claim7 := { stood := { row := treeChecksRow, standIns := [], harness := (true, "281fcd7b52eb2d7239e20f69b0cb76123fec948ca2a4bc02daaca6381cee804c"), looks := false }, kinds := [], alts := [], laidByText := true, laidKinds := [.data, .data], laidTests := true, laidLooks := .later }
def TreeChecksCardSaid : Prop := Claim7.holds Tryd.pinned (.plain (OpenSpec.ofChange treeChecksSpec)) treeChecksCard

/-- THE TIED CARD OF 'dioramalaw39.TreeExtends'. -/
def treeExtendsCard : Claim7 := { stood := { row := treeExtendsRow, standIns := [], harness := (true, "281fcd7b52eb2d7239e20f69b0cb76123fec948ca2a4bc02daaca6381cee804c"), looks := false }, kinds := [], alts := [], laidByText := true, laidKinds := [.data, .data], laidTests := true, laidLooks := .later }
def TreeExtendsCardSaid : Prop := Claim7.holds Tryd.pinned (.plain (OpenSpec.ofChange treeExtendsSpec)) treeExtendsCard

/-- THE TIED CARD OF 'dioramalaw39.TreeProved'. -/
def treeProvedCard : Claim7 := { stood := { row := treeProvedRow, standIns := [], harness := (true, "281fcd7b52eb2d7239e20f69b0cb76123fec948ca2a4bc02daaca6381cee804c"), looks := false }, kinds := [], alts := [], laidByText := true, laidKinds := [.data], laidTests := true, laidLooks := .later }
def TreeProvedCardSaid : Prop := Claim7.holds Tryd.pinned (.plain (OpenSpec.ofChange treeProvedSpec)) treeProvedCard

/-- THE TIED CARD OF 'dioramalaw39.TreeParts'. -/
def treePartsCard : Claim7 := { stood := { row := treePartsRow, standIns := [], harness := (true, "281fcd7b52eb2d7239e20f69b0cb76123fec948ca2a4bc02daaca6381cee804c"), looks := false }, kinds := [], alts := [], laidByText := true, laidKinds := [.data], laidTests := true, laidLooks := .later }
def TreePartsCardSaid : Prop := Claim7.holds Tryd.pinned (.plain (OpenSpec.ofChange treePartsSpec)) treePartsCard

/-- THE TIED CARD OF 'dioramalaw39.TreeWhole'. -/
def treeWholeCard : Claim7 := { stood := { row := treeWholeRow, standIns := [], harness := (true, "281fcd7b52eb2d7239e20f69b0cb76123fec948ca2a4bc02daaca6381cee804c"), looks := false }, kinds := [], alts := [], laidByText := true, laidKinds := [.data], laidTests := true, laidLooks := .later }
def TreeWholeCardSaid : Prop := Claim7.holds Tryd.pinned (.plain (OpenSpec.ofChange treeWholeSpec)) treeWholeCard

/-- THE SECOND FORM's CARD OF 'dioramalaw39.TreeRoots'. -/
def treeRootsUptoCard : Claim7 := { stood := { row := treeRootsUptoRow, standIns := [], harness := (true, "281fcd7b52eb2d7239e20f69b0cb76123fec948ca2a4bc02daaca6381cee804c"), looks := false }, kinds := [], alts := [], laidByText := true, laidKinds := [.data, .data], laidTests := true, laidLooks := .later }
def TreeRootsUptoCardSaid : Prop := Claim7.holds Tryd.pinned (.plain (OpenSpec.upto treeRootsSpec)) treeRootsUptoCard

/-- THE SECOND FORM's CARD OF 'dioramalaw39.TreeChecks'. -/
def treeChecksUptoCard : Claim7 := { stood := { row := treeChecksUptoRow, standIns := [], harness := (true, "281fcd7b52eb2d7239e20f69b0cb76123fec948ca2a4bc02daaca6381cee804c"), looks := false }, kinds := [], alts := [], laidByText := true, laidKinds := [.data, .data], laidTests := true, laidLooks := .later }
def TreeChecksUptoCardSaid : Prop := Claim7.holds Tryd.pinned (.plain (OpenSpec.upto treeChecksSpec)) treeChecksUptoCard

/-- THE SECOND FORM's CARD OF 'dioramalaw39.TreeExtends'. -/
def treeExtendsUptoCard : Claim7 := { stood := { row := treeExtendsUptoRow, standIns := [], harness := (true, "281fcd7b52eb2d7239e20f69b0cb76123fec948ca2a4bc02daaca6381cee804c"), looks := false }, kinds := [], alts := [], laidByText := true, laidKinds := [.data, .data], laidTests := true, laidLooks := .later }
def TreeExtendsUptoCardSaid : Prop := Claim7.holds Tryd.pinned (.plain (OpenSpec.upto treeExtendsSpec)) treeExtendsUptoCard

/-- THE SECOND FORM's CARD OF 'dioramalaw39.TreeProved'. -/
def treeProvedUptoCard : Claim7 := { stood := { row := treeProvedUptoRow, standIns := [], harness := (true, "281fcd7b52eb2d7239e20f69b0cb76123fec948ca2a4bc02daaca6381cee804c"), looks := false }, kinds := [], alts := [], laidByText := true, laidKinds := [.data], laidTests := true, laidLooks := .later }
def TreeProvedUptoCardSaid : Prop := Claim7.holds Tryd.pinned (.plain (OpenSpec.upto treeProvedSpec)) treeProvedUptoCard

/-- THE SECOND FORM's CARD OF 'dioramalaw39.TreeParts'. -/
def treePartsUptoCard : Claim7 := { stood := { row := treePartsUptoRow, standIns := [], harness := (true, "281fcd7b52eb2d7239e20f69b0cb76123fec948ca2a4bc02daaca6381cee804c"), looks := false }, kinds := [], alts := [], laidByText := true, laidKinds := [.data], laidTests := true, laidLooks := .later }
def TreePartsUptoCardSaid : Prop := Claim7.holds Tryd.pinned (.plain (OpenSpec.upto treePartsSpec)) treePartsUptoCard

/-- THE SECOND FORM's CARD OF 'dioramalaw39.TreeWhole'. -/
def treeWholeUptoCard : Claim7 := { stood := { row := treeWholeUptoRow, standIns := [], harness := (true, "281fcd7b52eb2d7239e20f69b0cb76123fec948ca2a4bc02daaca6381cee804c"), looks := false }, kinds := [], alts := [], laidByText := true, laidKinds := [.data], laidTests := true, laidLooks := .later }
def TreeWholeUptoCardSaid : Prop := Claim7.holds Tryd.pinned (.plain (OpenSpec.upto treeWholeSpec)) treeWholeUptoCard
end Rows
end Go.Proofs.YtbphmbmdkojbnaaDoor
