
/- Budgets: nobody spends or owes more than its limit, and neither becomes less. -/
import Derived.Test.YtkhlmicogdjmlaaPg
set_option linter.unusedSimpArgs false
set_option linter.unusedVariables false
namespace Go.Bg
open Go.Rt Go.Lx
end Go.Bg
namespace Go.Proofs.Ytkhlmicogdjmlaa
open Go.V Go.RowKit Go.L Go.Lx Go.Rt Go.Bg
set_option maxRecDepth 10000
set_option maxHeartbeats 4000000
/-- A law's book and its reference, each as it is. -/
abbrev lw2 (b c : Bk) : Asc := [(0, bkA b.A.length b.O.length b.W.length b.R.length), (1, acsO b.A), (2, acsO b.O), (3, liO b.W), (4, boO b.R), (5, rcA c.A.length c.O.length c.W.length c.R.length), (6, .arr c.A.length 2 (fun i => ratA (c.A.getD i accZ).L)), (7, .arr c.A.length 2 (fun i => ratA (c.A.getD i accZ).U)), (8, liO c.W), (9, boO c.R), (10, .arr c.O.length 2 (fun i => ratA (c.O.getD i accZ).L)), (11, .arr c.O.length 2 (fun i => ratA (c.O.getD i accZ).U))]
end Go.Proofs.Ytkhlmicogdjmlaa
