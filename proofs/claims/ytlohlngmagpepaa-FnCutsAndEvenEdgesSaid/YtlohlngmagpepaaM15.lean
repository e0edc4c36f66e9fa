/- Plain laws on the forms of all sets with a given effect. No program in sight. -/
import Derived.Test.YtlohlngmagpepaaM3
import Derived.Test.YtlohlngmagpepaaM17
namespace Go.Proofs.YtlohlngmagpepaaM
open Go.RowKit Go.Proofs.YtlohlngmagpepaaW.PrintWords Go.Proofs.YtlohlngmagpepaaW.PrintLast Go.Proofs.YtlohlngmagpepaaW.PrintMore
set_option linter.unusedVariables false
set_option linter.unusedSimpArgs false
end Go.Proofs.YtlohlngmagpepaaM
