/- Plain laws on systems of equations: their least solution, and how many there are. No program in sight. -/
import Derived.Test.YtlohlngmagpepaaM31
import Derived.Test.YtlohlngmagpepaaM34
namespace Go.Proofs.YtlohlngmagpepaaM
open Go.RowKit Go.Proofs.YtlohlngmagpepaaW.PrintWords Go.Proofs.YtlohlngmagpepaaW.PrintLast Go.Proofs.YtlohlngmagpepaaW.PrintMore
set_option linter.unusedVariables false
set_option linter.unusedSimpArgs false
end Go.Proofs.YtlohlngmagpepaaM
