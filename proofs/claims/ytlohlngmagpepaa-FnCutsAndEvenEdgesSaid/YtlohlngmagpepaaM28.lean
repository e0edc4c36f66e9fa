/- Plain laws on boards: solved, or refused by a quiet set that meets them oddly. No program in sight. -/
import Derived.Test.YtlohlngmagpepaaM27
namespace Go.Proofs.YtlohlngmagpepaaM
open Go.RowKit Go.Proofs.YtlohlngmagpepaaW.PrintWords Go.Proofs.YtlohlngmagpepaaW.PrintLast Go.Proofs.YtlohlngmagpepaaW.PrintMore
set_option linter.unusedVariables false
set_option linter.unusedSimpArgs false
end Go.Proofs.YtlohlngmagpepaaM
