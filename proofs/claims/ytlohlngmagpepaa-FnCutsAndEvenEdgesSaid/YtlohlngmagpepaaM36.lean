/- Plain laws: what the solver finds is the least solution of the equations, which are as many as their rank. No program in sight. -/
import Derived.Test.YtlohlngmagpepaaM35
namespace Go.Proofs.YtlohlngmagpepaaM
open Go.RowKit Go.Proofs.YtlohlngmagpepaaW.PrintWords Go.Proofs.YtlohlngmagpepaaW.PrintLast Go.Proofs.YtlohlngmagpepaaW.PrintMore
set_option linter.unusedVariables false
set_option linter.unusedSimpArgs false
end Go.Proofs.YtlohlngmagpepaaM
