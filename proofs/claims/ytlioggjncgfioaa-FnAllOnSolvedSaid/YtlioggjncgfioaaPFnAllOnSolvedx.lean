-- Written by a program of this session (wip/tools/mp.py) around the kit's printer; Lean checks it.
import Derived.Test.YtlioggjncgfioaaPFnAllOnSolvedx0
import Derived.Test.YtlioggjncgfioaaPFnAllOnSolvedx1
import Derived.Test.YtlioggjncgfioaaPFnAllOnSolvedx2
import Derived.Test.YtlioggjncgfioaaPFnAllOnSolvedx3
import Derived.Test.YtlioggjncgfioaaPFnAllOnSolvedx4
import Derived.Test.YtlioggjncgfioaaPFnAllOnSolvedx5
import Derived.Test.YtlioggjncgfioaaPFnAllOnSolvedx6
import Derived.Test.YtlioggjncgfioaaPFnAllOnSolvedx7
import Derived.Test.YtlioggjncgfioaaPFnAllOnSolvedx8
namespace Go.Proofs.Ytlioggjncgfioaa.PFnAllOnSolved
open Go.RowKit Go.Proofs.YtlioggjncgfioaaW.PrintWords Go.Proofs.YtlioggjncgfioaaW.PrintLast Go.Proofs.YtlioggjncgfioaaW.PrintMore
attribute [local go_sem] max2_int min2_int max_two min_two max_three min_three max_four min_four   -- for this text's walks alone
set_option linter.unusedVariables false
set_option linter.unusedSimpArgs false

end Go.Proofs.Ytlioggjncgfioaa.PFnAllOnSolved
