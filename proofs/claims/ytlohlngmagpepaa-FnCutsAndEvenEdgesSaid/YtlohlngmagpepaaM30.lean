/- Plain laws on all lights: they can be lit where buttons have their own ones. No program in sight. -/
import Derived.Test.YtlohlngmagpepaaM28
import Derived.Test.YtlohlngmagpepaaM29
namespace Go.Proofs.YtlohlngmagpepaaM
open Go.RowKit Go.Proofs.YtlohlngmagpepaaW.PrintWords Go.Proofs.YtlohlngmagpepaaW.PrintLast Go.Proofs.YtlohlngmagpepaaW.PrintMore
set_option linter.unusedVariables false
set_option linter.unusedSimpArgs false
end Go.Proofs.YtlohlngmagpepaaM
