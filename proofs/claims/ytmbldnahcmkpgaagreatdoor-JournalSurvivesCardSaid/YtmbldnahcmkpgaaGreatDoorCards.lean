/-
  DERIVED. GIVEN WITH THE SEED: THE CARDS: each row of YtmbldnahcmkpgaaGreatDoorRows.lean that lists a variable, with what it lists TIED to the program's text (the seventh form; the later family's looks); each row that meets fmt, with fmt's text TOLD by the authors' own Lean function (tested against real Go, not proved from fmt's source: count such statements apart). THE CARD IS WHAT COUNTS. Prove the row's statement (the work); the ties are given (YtmbldnahcmkpgaaGreatDoorTie.lean); close each card by the builder's one call (the guide's Derived/Test/ToyasCard.lean, 'card_holds'). Laid BY PROGRAM, IN A SANDBOX (cutbox-door.mjs). By AI agents, Wed Nov 11 2026. No macro, syntax, notation, axiom, sorry.
-/
import Derived.Test.YtmbldnahcmkpgaaGreatDoorRows
import GoSem.ClaimSeven
namespace Go.Proofs.YtmbldnahcmkpgaaGreatDoor
namespace Rows

/-- THE TIED CARD OF 'dioramalaw42.JournalReadsAnything'. -/
def journalReadsAnythingCard : Claim7 := { stood := { row := journalReadsAnythingRow, standIns := [], harness := (true, "13fba4dcc25f2837e65400b3be93f0983a76e848961e8b5f815a9e0dd4228cf1"), looks := false }, kinds := [], alts := [], laidByText := true, laidKinds := [.data, .data], laidTests := true, laidLooks := .later }
def JournalReadsAnythingCardSaid : Prop := Claim7.holds Tryz.pinned (.plain (OpenSpec.ofChange journalReadsAnythingSpec)) journalReadsAnythingCard

/-- THE TIED CARD OF 'dioramalaw42.JournalSurvives'. -/
def journalSurvivesCard : Claim7 := { stood := { row := journalSurvivesRow, standIns := [], harness := (true, "13fba4dcc25f2837e65400b3be93f0983a76e848961e8b5f815a9e0dd4228cf1"), looks := false }, kinds := [], alts := [], laidByText := true, laidKinds := [.data, .data], laidTests := true, laidLooks := .later }
def JournalSurvivesCardSaid : Prop := Claim7.holds Tryz.pinned (.plain (OpenSpec.ofChange journalSurvivesSpec)) journalSurvivesCard

/-- THE TIED CARD OF 'dioramalaw42.JournalMatchesSpec'. -/
def journalMatchesSpecCard : Claim7 := { stood := { row := journalMatchesSpecRow, standIns := [], harness := (true, "13fba4dcc25f2837e65400b3be93f0983a76e848961e8b5f815a9e0dd4228cf1"), looks := false }, kinds := [], alts := [], laidByText := true, laidKinds := [.data, .data], laidTests := true, laidLooks := .later }
def JournalMatchesSpecCardSaid : Prop := Claim7.holds Tryz.pinned (.plain (OpenSpec.ofChange journalMatchesSpecSpec)) journalMatchesSpecCard

/-- THE SECOND FORM's CARD OF 'dioramalaw42.JournalReadsAnything'. -/
def journalReadsAnythingUptoCard : Claim7 := { stood := { row := journalReadsAnythingUptoRow, standIns := [], harness := (true, "13fba4dcc25f2837e65400b3be93f0983a76e848961e8b5f815a9e0dd4228cf1"), looks := false }, kinds := [], alts := [], laidByText := true, laidKinds := [.data, .data], laidTests := true, laidLooks := .later }
def JournalReadsAnythingUptoCardSaid : Prop := Claim7.holds Tryz.pinned (.plain (OpenSpec.upto journalReadsAnythingSpec)) journalReadsAnythingUptoCard

/-- THE SECOND FORM's CARD OF 'dioramalaw42.JournalSurvives'. -/
def journalSurvivesUptoCard : Claim7 := { stood := { row := journalSurvivesUptoRow, standIns := [], harness := (true, "13fba4dcc25f2837e65400b3be93f0983a76e848961e8b5f815a9e0dd4228cf1"), looks := false }, kinds := [], alts := [], laidByText := true, laidKinds := [.data, .data], laidTests := true, laidLooks := .later }
def JournalSurvivesUptoCardSaid : Prop := Claim7.holds Tryz.pinned (.plain (OpenSpec.upto journalSurvivesSpec)) journalSurvivesUptoCard

/-- THE SECOND FORM's CARD OF 'dioramalaw42.JournalMatchesSpec'. -/
def journalMatchesSpecUptoCard : Claim7 := { stood := { row := journalMatchesSpecUptoRow, standIns := [], harness := (true, "13fba4dcc25f2837e65400b3be93f0983a76e848961e8b5f815a9e0dd4228cf1"), looks := false }, kinds := [], alts := [], laidByText := true, laidKinds := [.data, .data], laidTests := true, laidLooks := .later }
def JournalMatchesSpecUptoCardSaid : Prop := Claim7.holds Tryz.pinned (.plain (OpenSpec.upto journalMatchesSpecSpec)) journalMatchesSpecUptoCard
end Rows
end Go.Proofs.YtmbldnahcmkpgaaGreatDoor
