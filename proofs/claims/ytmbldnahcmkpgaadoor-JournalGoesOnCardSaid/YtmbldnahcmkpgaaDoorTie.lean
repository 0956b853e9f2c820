/-
  DERIVED. GIVEN WITH THE SEED: THE PROGRAM's TIES (one call each: nine closed facts by the kernel) AND EACH ROW's TIE, after the 31st guide's Derived/Test/Toyas{Tie, Card}.lean. No idea stands in it: it is a product of the set-up. Laid BY PROGRAM, IN A SANDBOX (cutbox-door.mjs). By AI agents, Wed Nov 11 2026. No macro, syntax, notation, axiom, sorry.
-/
import Derived.Test.YtmbldnahcmkpgaaDoorRows
import Derived.LaidByTextLater
import Derived.SevenTiedAt
import Derived.LaidSub
import Derived.LaidOnce
namespace Go.Proofs.YtmbldnahcmkpgaaDoor
open Go
set_option maxRecDepth 100000
theorem seatTie1 : Tryd.prog.laidByTextLater [("diorama/dioramaref02.constants", Rows.laid_diorama_dioramaref02_constants), ("diorama/hash.constants", Rows.laid_diorama_hash_constants)] [.data, .data] true :=
  Program.laidByTextLater_by_one 19 8 65 (by kernel_rfl) (by kernel_rfl) (by kernel_rfl) (by kernel_rfl) (by kernel_rfl) (by kernel_rfl) (fun _ _ => by kernel_rfl)
theorem noOwnUnsafe : Tryd.pinned.checked.prog.headLifts.contains "ownunsafe" = false := by kernel_rfl
theorem tie : Tryd.prog.laidByTextLater [("diorama/dioramaref02.constants", Rows.laid_diorama_dioramaref02_constants), ("diorama/hash.constants", Rows.laid_diorama_hash_constants)] [.data, .data] true :=
  Program.laidByTextLater.sub seatTie1 ["diorama/dioramaref02.constants", "diorama/hash.constants"] (by kernel_rfl) (by kernel_rfl)
theorem journalSectors_row_tie : Rows.journalSectorsRow.laidByTextAt .later Tryd.pinned [.data, .data] true :=
  OpenClaim.laidByTextAt_later rfl rfl tie noOwnUnsafe
theorem tie2 : Tryd.prog.laidByTextLater [("diorama/hash.constants", Rows.laid_diorama_hash_constants)] [.data] true :=
  Program.laidByTextLater.sub seatTie1 ["diorama/hash.constants"] (by kernel_rfl) (by kernel_rfl)
theorem journalGoesOn_row_tie : Rows.journalGoesOnRow.laidByTextAt .later Tryd.pinned [.data] true :=
  OpenClaim.laidByTextAt_later rfl rfl tie2 noOwnUnsafe
theorem journalSectorsUpto_row_tie : Rows.journalSectorsUptoRow.laidByTextAt .later Tryd.pinned [.data, .data] true :=
  OpenClaim.laidByTextAt_later rfl rfl tie noOwnUnsafe
theorem journalGoesOnUpto_row_tie : Rows.journalGoesOnUptoRow.laidByTextAt .later Tryd.pinned [.data] true :=
  OpenClaim.laidByTextAt_later rfl rfl tie2 noOwnUnsafe
end Go.Proofs.YtmbldnahcmkpgaaDoor
