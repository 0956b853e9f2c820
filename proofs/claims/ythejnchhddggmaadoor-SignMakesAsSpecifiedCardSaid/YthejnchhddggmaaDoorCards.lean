/-
  DERIVED. GIVEN WITH THE SEED: THE CARDS: each row of YthejnchhddggmaaDoorRows.lean that lists a variable, with what it lists TIED to the program's text (the seventh form; the later family's looks); each row that meets fmt, with fmt's text TOLD by the authors' own Lean function (tested against real Go, not proved from fmt's source: count such statements apart). THE CARD IS WHAT COUNTS. Prove the row's statement (the work); the ties are given (YthejnchhddggmaaDoorTie.lean); close each card by the builder's one call (the guide's Derived/Test/ToyasCard.lean, 'card_holds'). Laid BY PROGRAM, IN A SANDBOX (cutbox-door.mjs). By AI agents, Wed Nov 11 2026. No macro, syntax, notation, axiom, sorry.
-/
import Derived.Test.YthejnchhddggmaaDoorRows
import GoSem.ClaimSeven
namespace Go.Proofs.YthejnchhddggmaaDoor
namespace Rows

/-- THE TIED CARD OF 'dioramalaw03.SignDigitsMatchSpec'. -/
def signDigitsMatchSpecCard : Claim7 := { stood := { row := signDigitsMatchSpecRow, standIns := [], harness := (true, "88ee0586ef61eeb971e320121f295166f230c599d2f2fa4bc2743665d44e0e71"), looks := false }, kinds := [], alts := [], laidByText := true, laidKinds := [.data], laidTests := true, laidLooks := .later }
def SignDigitsMatchSpecCardSaid : Prop := Claim7.holds Tryd.pinned (.plain (OpenSpec.ofChange signDigitsMatchSpecSpec)) signDigitsMatchSpecCard

/-- THE TIED CARD OF 'dioramalaw03.SignMakesAsSpecified'. -/
def signMakesAsSpecifiedCard : Claim7 := { stood := { row := signMakesAsSpecifiedRow, standIns := [], harness := (true, "88ee0586ef61eeb971e320121f295166f230c599d2f2fa4bc2743665d44e0e71"), looks := false }, kinds := [], alts := [], laidByText := true, laidKinds := [.data, .data], laidTests := true, laidLooks := .later }
def SignMakesAsSpecifiedCardSaid : Prop := Claim7.holds Tryd.pinned (.plain (OpenSpec.ofChange signMakesAsSpecifiedSpec)) signMakesAsSpecifiedCard

/-- THE TIED CARD OF 'dioramalaw03.SignVerifiesAsSpecified'. -/
def signVerifiesAsSpecifiedCard : Claim7 := { stood := { row := signVerifiesAsSpecifiedRow, standIns := [], harness := (true, "88ee0586ef61eeb971e320121f295166f230c599d2f2fa4bc2743665d44e0e71"), looks := false }, kinds := [], alts := [], laidByText := true, laidKinds := [.data, .data], laidTests := true, laidLooks := .later }
def SignVerifiesAsSpecifiedCardSaid : Prop := Claim7.holds Tryd.pinned (.plain (OpenSpec.ofChange signVerifiesAsSpecifiedSpec)) signVerifiesAsSpecifiedCard

/-- THE TIED CARD OF 'dioramalaw03.SignIsAccepted'. -/
def signIsAcceptedCard : Claim7 := { stood := { row := signIsAcceptedRow, standIns := [], harness := (true, "88ee0586ef61eeb971e320121f295166f230c599d2f2fa4bc2743665d44e0e71"), looks := false }, kinds := [], alts := [], laidByText := true, laidKinds := [.data], laidTests := true, laidLooks := .later }
def SignIsAcceptedCardSaid : Prop := Claim7.holds Tryd.pinned (.plain (OpenSpec.ofChange signIsAcceptedSpec)) signIsAcceptedCard

/-- THE TIED CARD OF 'dioramalaw03.SignDigitsCross'. -/
def signDigitsCrossCard : Claim7 := { stood := { row := signDigitsCrossRow, standIns := [], harness := (true, "88ee0586ef61eeb971e320121f295166f230c599d2f2fa4bc2743665d44e0e71"), looks := false }, kinds := [], alts := [], laidByText := true, laidKinds := [.data], laidTests := true, laidLooks := .later }
def SignDigitsCrossCardSaid : Prop := Claim7.holds Tryd.pinned (.plain (OpenSpec.ofChange signDigitsCrossSpec)) signDigitsCrossCard

/-- THE TIED CARD OF 'dioramalaw03.SignBindsTheIndex'. -/
def signBindsTheIndexCard : Claim7 := { stood := { row := signBindsTheIndexRow, standIns := [], harness := (true, "88ee0586ef61eeb971e320121f295166f230c599d2f2fa4bc2743665d44e0e71"), looks := false }, kinds := [], alts := [], laidByText := true, laidKinds := [.data, .data], laidTests := true, laidLooks := .later }
def SignBindsTheIndexCardSaid : Prop := Claim7.holds Tryd.pinned (.plain (OpenSpec.ofChange signBindsTheIndexSpec)) signBindsTheIndexCard

/-- THE SECOND FORM's CARD OF 'dioramalaw03.SignDigitsMatchSpec'. -/
def signDigitsMatchSpecUptoCard : Claim7 := { stood := { row := signDigitsMatchSpecUptoRow, standIns := [], harness := (true, "88ee0586ef61eeb971e320121f295166f230c599d2f2fa4bc2743665d44e0e71"), looks := false }, kinds := [], alts := [], laidByText := true, laidKinds := [.data], laidTests := true, laidLooks := .later }
def SignDigitsMatchSpecUptoCardSaid : Prop := Claim7.holds Tryd.pinned (.plain (OpenSpec.upto signDigitsMatchSpecSpec)) signDigitsMatchSpecUptoCard

/-- THE SECOND FORM's CARD OF 'dioramalaw03.SignMakesAsSpecified'. -/
def signMakesAsSpecifiedUptoCard : Claim7 := { stood := { row := signMakesAsSpecifiedUptoRow, standIns := [], harness := (true, "88ee0586ef61eeb971e320121f295166f230c599d2f2fa4bc2743665d44e0e71"), looks := false }, kinds := [], alts := [], laidByText := true, laidKinds := [.data, .data], laidTests := true, laidLooks := .later }
def SignMakesAsSpecifiedUptoCardSaid : Prop := Claim7.holds Tryd.pinned (.plain (OpenSpec.upto signMakesAsSpecifiedSpec)) signMakesAsSpecifiedUptoCard

/-- THE SECOND FORM's CARD OF 'dioramalaw03.SignVerifiesAsSpecified'. -/
def signVerifiesAsSpecifiedUptoCard : Claim7 := { stood := { row := signVerifiesAsSpecifiedUptoRow, standIns := [], harness := (true, "88ee0586ef61eeb971e320121f295166f230c599d2f2fa4bc2743665d44e0e71"), looks := false }, kinds := [], alts := [], laidByText := true, laidKinds := [.data, .data], laidTests := true, laidLooks := .later }
def SignVerifiesAsSpecifiedUptoCardSaid : Prop := Claim7.holds Tryd.pinned (.plain (OpenSpec.upto signVerifiesAsSpecifiedSpec)) signVerifiesAsSpecifiedUptoCard

/-- THE SECOND FORM's CARD OF 'dioramalaw03.SignIsAccepted'. -/
def signIsAcceptedUptoCard : Claim7 := { stood := { row := signIsAcceptedUptoRow, standIns := [], harness := (true, "88ee0586ef61eeb971e320121f295166f230c599d2f2fa4bc2743665d44e0e71"), looks := false }, kinds := [], alts := [], laidByText := true, laidKinds := [.data], laidTests := true, laidLooks := .later }
def SignIsAcceptedUptoCardSaid : Prop := Claim7.holds Tryd.pinned (.plain (OpenSpec.upto signIsAcceptedSpec)) signIsAcceptedUptoCard

/-- THE SECOND FORM's CARD OF 'dioramalaw03.SignDigitsCross'. -/
def signDigitsCrossUptoCard : Claim7 := { stood := { row := signDigitsCrossUptoRow, standIns := [], harness := (true, "88ee0586ef61eeb971e320121f295166f230c599d2f2fa4bc2743665d44e0e71"), looks := false }, kinds := [], alts := [], laidByText := true, laidKinds := [.data], laidTests := true, laidLooks := .later }
def SignDigitsCrossUptoCardSaid : Prop := Claim7.holds Tryd.pinned (.plain (OpenSpec.upto signDigitsCrossSpec)) signDigitsCrossUptoCard

/-- THE SECOND FORM's CARD OF 'dioramalaw03.SignBindsTheIndex'. -/
def signBindsTheIndexUptoCard : Claim7 := { stood := { row := signBindsTheIndexUptoRow, standIns := [], harness := (true, "88ee0586ef61eeb971e320121f295166f230c599d2f2fa4bc2743665d44e0e71"), looks := false }, kinds := [], alts := [], laidByText := true, laidKinds := [.data, .data], laidTests := true, laidLooks := .later }
def SignBindsTheIndexUptoCardSaid : Prop := Claim7.holds Tryd.pinned (.plain (OpenSpec.upto signBindsTheIndexSpec)) signBindsTheIndexUptoCard
end Rows
end Go.Proofs.YthejnchhddggmaaDoor
