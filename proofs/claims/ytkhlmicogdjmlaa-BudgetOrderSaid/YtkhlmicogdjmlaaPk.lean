
/- Budgets: what is refused changes nothing. -/
import Derived.Test.YtkhlmicogdjmlaaPi
import Derived.Test.YtkhlmicogdjmlaaPh
set_option linter.unusedSimpArgs false
set_option linter.unusedVariables false
namespace Go.Bg
open Go.Rt Go.Lx
end Go.Bg
