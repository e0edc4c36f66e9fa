-- Written by a program of this session (wip/tools/mp.py) around the kit's printer; Lean checks it.
import Derived.Test.YtjkijnggjjoheaaPFnLitOrbitsx0
import Derived.Test.YtjkijnggjjoheaaPFnLitOrbitsx1
import Derived.Test.YtjkijnggjjoheaaPFnLitOrbitsx2
import Derived.Test.YtjkijnggjjoheaaPFnLitOrbitsx3
import Derived.Test.YtjkijnggjjoheaaPFnLitOrbitsx4
import Derived.Test.YtjkijnggjjoheaaPFnLitOrbitsx5
import Derived.Test.YtjkijnggjjoheaaPFnLitOrbitsx6
import Derived.Test.YtjkijnggjjoheaaPFnLitOrbitsx7
import Derived.Test.YtjkijnggjjoheaaPFnLitOrbitsx8
import Derived.Test.YtjkijnggjjoheaaPFnLitOrbitsx9
import Derived.Test.YtjkijnggjjoheaaPFnLitOrbitsx10
import Derived.Test.YtjkijnggjjoheaaPFnLitOrbitsx11
import Derived.Test.YtjkijnggjjoheaaPFnLitOrbitsx12
namespace Go.Proofs.Ytjkijnggjjoheaa.PFnLitOrbits
open Go.RowKit Go.Proofs.YtjkijnggjjoheaaW.PrintWords Go.Proofs.YtjkijnggjjoheaaW.PrintLast Go.Proofs.YtjkijnggjjoheaaW.PrintMore
attribute [local go_sem] max2_int min2_int max_two min_two max_three min_three max_four min_four   -- for this text's walks alone
set_option linter.unusedVariables false
set_option linter.unusedSimpArgs false

end Go.Proofs.Ytjkijnggjjoheaa.PFnLitOrbits
