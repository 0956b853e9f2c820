
/- Budgets: the reference's book: its memory, Remove, known. -/
import Derived.Test.YtkhlmicogdjmlaaRm
set_option linter.unusedSimpArgs false
set_option linter.unusedVariables false
namespace Go.Proofs.Ytkhlmicogdjmlaa
open Go.V Go.RowKit Go.L Go.Lx Go.Rt Go.Bg
set_option maxRecDepth 10000
set_option maxHeartbeats 4000000
abbrev rbA (a o w r : Nat) : AV := .pair (.sl 1 [] 2 0 a) (.pair (.sl 2 [] 2 0 a) (.pair (.sl 3 [] 1 0 w) (.pair (.sl 4 [] 1 0 r) (.pair (.sl 5 [] 2 0 o) (.pair (.sl 6 [] 2 0 o) .nul)))))
abbrev rH (b : Bk) : Asc := [(0, rbA b.A.length b.O.length b.W.length b.R.length), (1, .arr b.A.length 2 (fun i => ratA (b.A.getD i accZ).L)), (2, .arr b.A.length 2 (fun i => ratA (b.A.getD i accZ).U)), (3, liO b.W), (4, boO b.R), (5, .arr b.O.length 2 (fun i => ratA (b.O.getD i accZ).L)), (6, .arr b.O.length 2 (fun i => ratA (b.O.getD i accZ).U))]
end Go.Proofs.Ytkhlmicogdjmlaa
