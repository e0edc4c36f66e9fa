-- Written by a program of this session (wip/tools/mp.py) around the kit's printer; Lean checks it.
import Derived.Test.YtlioggjncgfioaaPFnOddDominatingx0
import Derived.Test.YtlioggjncgfioaaPFnOddDominatingx1
import Derived.Test.YtlioggjncgfioaaPFnOddDominatingx2
import Derived.Test.YtlioggjncgfioaaPFnOddDominatingx3
import Derived.Test.YtlioggjncgfioaaPFnOddDominatingx4
import Derived.Test.YtlioggjncgfioaaPFnOddDominatingx5
import Derived.Test.YtlioggjncgfioaaPFnOddDominatingx6
namespace Go.Proofs.Ytlioggjncgfioaa.PFnOddDominating
open Go.RowKit Go.Proofs.YtlioggjncgfioaaW.PrintWords Go.Proofs.YtlioggjncgfioaaW.PrintLast Go.Proofs.YtlioggjncgfioaaW.PrintMore
attribute [local go_sem] max2_int min2_int max_two min_two max_three min_three max_four min_four   -- for this text's walks alone
set_option linter.unusedVariables false
set_option linter.unusedSimpArgs false

end Go.Proofs.Ytlioggjncgfioaa.PFnOddDominating
