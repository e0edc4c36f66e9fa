-- Written by a program of this session (wip/tools/mp.py) around the kit's printer; Lean checks it.
import Derived.Test.YtlioggjncgfioaaPFnSolvedOrRefusedx0
namespace Go.Proofs.Ytlioggjncgfioaa.PFnSolvedOrRefused
open Go.RowKit Go.Proofs.YtlioggjncgfioaaW.PrintWords Go.Proofs.YtlioggjncgfioaaW.PrintLast Go.Proofs.YtlioggjncgfioaaW.PrintMore
attribute [local go_sem] max2_int min2_int max_two min_two max_three min_three max_four min_four   -- for this text's walks alone
set_option linter.unusedVariables false
set_option linter.unusedSimpArgs false

-- NOT PRINTED: function 83 (impl_solverFor)

-- NOT PRINTED: function 55 (impl_solverOf)

-- NOT PRINTED: function 15 (impl_NullityOf)

end Go.Proofs.Ytlioggjncgfioaa.PFnSolvedOrRefused
