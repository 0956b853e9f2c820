
/- Drawn regions whose tail waits by way of its own operations. -/
import Derived.Test.YtfiecjpoabnfnaaFe
set_option linter.unusedSimpArgs false
set_option linter.unusedVariables false
namespace Go.V
open Go.RowKit Go.L Go.Chain
section
variable {P : Program} {ops : Array Oper} {Q : Exit → Act → World → Prop}
end
end Go.V
