-- Written by a program of this session (wip/tools/mp.py) around the kit's printer; Lean checks it.
import Derived.Test.YtlohlngmagpepaaGreatPFnSplitsOfGraphsx0
import Derived.Test.YtlohlngmagpepaaGreatPFnSplitsOfGraphsx1
import Derived.Test.YtlohlngmagpepaaGreatPFnSplitsOfGraphsx2
import Derived.Test.YtlohlngmagpepaaGreatPFnSplitsOfGraphsx3
import Derived.Test.YtlohlngmagpepaaGreatPFnSplitsOfGraphsx4
import Derived.Test.YtlohlngmagpepaaGreatPFnSplitsOfGraphsx5
import Derived.Test.YtlohlngmagpepaaGreatPFnSplitsOfGraphsx6
import Derived.Test.YtlohlngmagpepaaGreatPFnSplitsOfGraphsx7
import Derived.Test.YtlohlngmagpepaaGreatPFnSplitsOfGraphsx8
import Derived.Test.YtlohlngmagpepaaGreatPFnSplitsOfGraphsx9
namespace Go.Proofs.YtlohlngmagpepaaGreat.PFnSplitsOfGraphs
open Go.RowKit Go.Proofs.YtlohlngmagpepaaGreatW.PrintWords Go.Proofs.YtlohlngmagpepaaGreatW.PrintLast Go.Proofs.YtlohlngmagpepaaGreatW.PrintMore
attribute [local go_sem] max2_int min2_int max_two min_two max_three min_three max_four min_four   -- for this text's walks alone
set_option linter.unusedVariables false
set_option linter.unusedSimpArgs false

end Go.Proofs.YtlohlngmagpepaaGreat.PFnSplitsOfGraphs
