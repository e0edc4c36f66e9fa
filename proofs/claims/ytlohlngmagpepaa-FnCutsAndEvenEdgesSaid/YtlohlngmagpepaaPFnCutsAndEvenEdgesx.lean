-- Written by a program of this session (wip/tools/mp.py) around the kit's printer; Lean checks it.
import Derived.Test.YtlohlngmagpepaaPFnCutsAndEvenEdgesx0
import Derived.Test.YtlohlngmagpepaaPFnCutsAndEvenEdgesx1
import Derived.Test.YtlohlngmagpepaaPFnCutsAndEvenEdgesx2
import Derived.Test.YtlohlngmagpepaaPFnCutsAndEvenEdgesx3
import Derived.Test.YtlohlngmagpepaaPFnCutsAndEvenEdgesx4
import Derived.Test.YtlohlngmagpepaaPFnCutsAndEvenEdgesx5
import Derived.Test.YtlohlngmagpepaaPFnCutsAndEvenEdgesx6
import Derived.Test.YtlohlngmagpepaaPFnCutsAndEvenEdgesx7
import Derived.Test.YtlohlngmagpepaaPFnCutsAndEvenEdgesx8
namespace Go.Proofs.Ytlohlngmagpepaa.PFnCutsAndEvenEdges
open Go.RowKit Go.Proofs.YtlohlngmagpepaaW.PrintWords Go.Proofs.YtlohlngmagpepaaW.PrintLast Go.Proofs.YtlohlngmagpepaaW.PrintMore
attribute [local go_sem] max2_int min2_int max_two min_two max_three min_three max_four min_four   -- for this text's walks alone
set_option linter.unusedVariables false
set_option linter.unusedSimpArgs false
end Go.Proofs.Ytlohlngmagpepaa.PFnCutsAndEvenEdges
