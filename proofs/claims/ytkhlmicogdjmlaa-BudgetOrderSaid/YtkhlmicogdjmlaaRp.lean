
/- Budgets: the reference's Ask. -/
import Derived.Test.YtkhlmicogdjmlaaRo
set_option linter.unusedSimpArgs false
set_option linter.unusedVariables false
namespace Go.Bg
open Go.Rt Go.Lx
end Go.Bg
namespace Go.Proofs.Ytkhlmicogdjmlaa
open Go.V Go.RowKit Go.L Go.Lx Go.Rt Go.Bg
set_option maxRecDepth 10000
set_option maxHeartbeats 4000000
end Go.Proofs.Ytkhlmicogdjmlaa
