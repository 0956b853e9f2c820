
/- dioramaref02: Joined, padKey, Mac, Short, Input, Of. -/
import Derived.Test.YthejnchhddggmaaDoorIh
set_option linter.unusedSimpArgs false
set_option linter.unusedVariables false
namespace Go.Proofs.YthejnchhddggmaaDoor
open Go.V Go.RowKit Go.U Go.L
end Go.Proofs.YthejnchhddggmaaDoor
