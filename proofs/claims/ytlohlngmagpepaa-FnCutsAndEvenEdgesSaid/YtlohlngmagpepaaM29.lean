/- Plain laws on quiet sets of graphs whose buttons have their own lights: they have an even number of buttons. No program in sight. -/
import Derived.Test.YtlohlngmagpepaaM28
namespace Go.Proofs.YtlohlngmagpepaaM
open Go.RowKit Go.Proofs.YtlohlngmagpepaaW.PrintWords Go.Proofs.YtlohlngmagpepaaW.PrintLast Go.Proofs.YtlohlngmagpepaaW.PrintMore
set_option linter.unusedVariables false
set_option linter.unusedSimpArgs false
end Go.Proofs.YtlohlngmagpepaaM
