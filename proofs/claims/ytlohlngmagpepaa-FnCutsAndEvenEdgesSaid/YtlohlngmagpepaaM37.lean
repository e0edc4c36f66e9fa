/- Plain laws: what the reference finds for all lights of a graph with own lights. No program in sight. -/
import Derived.Test.YtlohlngmagpepaaM30
import Derived.Test.YtlohlngmagpepaaM36
namespace Go.Proofs.YtlohlngmagpepaaM
open Go.RowKit Go.Proofs.YtlohlngmagpepaaW.PrintWords Go.Proofs.YtlohlngmagpepaaW.PrintLast Go.Proofs.YtlohlngmagpepaaW.PrintMore
set_option linter.unusedVariables false
set_option linter.unusedSimpArgs false
end Go.Proofs.YtlohlngmagpepaaM
