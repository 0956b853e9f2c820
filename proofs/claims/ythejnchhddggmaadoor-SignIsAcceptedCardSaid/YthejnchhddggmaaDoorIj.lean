
/- dioramaref02: Mac, Input, Of. -/
import Derived.Test.YthejnchhddggmaaDoorIi
set_option linter.unusedSimpArgs false
set_option linter.unusedVariables false
namespace Go.Proofs.YthejnchhddggmaaDoor
open Go.V Go.RowKit Go.U Go.L
end Go.Proofs.YthejnchhddggmaaDoor
