
/- dioramaref39.Spoilt: some digests. -/
import Derived.Test.YtbphmbmdkojbnaaDoorUz
set_option linter.unusedSimpArgs false
set_option linter.unusedVariables false
namespace Go.Proofs.YtbphmbmdkojbnaaDoor
open Go.V Go.RowKit Go.U Go.L
end Go.Proofs.YtbphmbmdkojbnaaDoor
