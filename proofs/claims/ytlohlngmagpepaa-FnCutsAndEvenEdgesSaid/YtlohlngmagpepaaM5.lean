/- Plain laws on polynomials of maps. No program in sight. -/
import Derived.Test.YtlohlngmagpepaaM2
import Derived.Test.YtlohlngmagpepaaM4
namespace Go.Proofs.YtlohlngmagpepaaM
open Go.RowKit Go.Proofs.YtlohlngmagpepaaW.PrintWords Go.Proofs.YtlohlngmagpepaaW.PrintLast Go.Proofs.YtlohlngmagpepaaW.PrintMore
set_option linter.unusedVariables false
set_option linter.unusedSimpArgs false
end Go.Proofs.YtlohlngmagpepaaM
