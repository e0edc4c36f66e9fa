-- Written by a program of this session (wip/tools/mp.py) around the kit's printer; Lean checks it.
import Derived.Test.YthedhenndfaipaaPFnPressesAddUpx0
import Derived.Test.YthedhenndfaipaaPFnPressesAddUpx1
import Derived.Test.YthedhenndfaipaaPFnPressesAddUpx2
import Derived.Test.YthedhenndfaipaaPFnPressesAddUpx3
import Derived.Test.YthedhenndfaipaaPFnPressesAddUpx4
import Derived.Test.YthedhenndfaipaaPFnPressesAddUpx5
import Derived.Test.YthedhenndfaipaaPFnPressesAddUpx6
import Derived.Test.YthedhenndfaipaaPFnPressesAddUpx7
import Derived.Test.YthedhenndfaipaaPFnPressesAddUpx8
namespace Go.Proofs.Ythedhenndfaipaa.PFnPressesAddUp
open Go.RowKit Go.Proofs.YthedhenndfaipaaW.PrintWords Go.Proofs.YthedhenndfaipaaW.PrintLast Go.Proofs.YthedhenndfaipaaW.PrintMore
attribute [local go_sem] max2_int min2_int max_two min_two max_three min_three max_four min_four   -- for this text's walks alone
set_option linter.unusedVariables false
set_option linter.unusedSimpArgs false

end Go.Proofs.Ythedhenndfaipaa.PFnPressesAddUp
