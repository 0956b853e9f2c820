
/- Budgets: what all owners together owe; plain. -/
import Derived.Test.YtkhlmicogdjmlaaPg
set_option linter.unusedSimpArgs false
set_option linter.unusedVariables false
namespace Go.Bg
open Go.Rt Go.Lx
end Go.Bg
