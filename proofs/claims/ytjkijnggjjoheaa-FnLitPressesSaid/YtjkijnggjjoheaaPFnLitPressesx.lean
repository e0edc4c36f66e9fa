-- Written by a program of this session (wip/tools/mp.py) around the kit's printer; Lean checks it.
import Derived.Test.YtjkijnggjjoheaaPFnLitPressesx0
import Derived.Test.YtjkijnggjjoheaaPFnLitPressesx1
import Derived.Test.YtjkijnggjjoheaaPFnLitPressesx2
import Derived.Test.YtjkijnggjjoheaaPFnLitPressesx3
import Derived.Test.YtjkijnggjjoheaaPFnLitPressesx4
import Derived.Test.YtjkijnggjjoheaaPFnLitPressesx5
import Derived.Test.YtjkijnggjjoheaaPFnLitPressesx6
import Derived.Test.YtjkijnggjjoheaaPFnLitPressesx7
import Derived.Test.YtjkijnggjjoheaaPFnLitPressesx8
import Derived.Test.YtjkijnggjjoheaaPFnLitPressesx9
import Derived.Test.YtjkijnggjjoheaaPFnLitPressesx10
import Derived.Test.YtjkijnggjjoheaaPFnLitPressesx11
namespace Go.Proofs.Ytjkijnggjjoheaa.PFnLitPresses
open Go.RowKit Go.Proofs.YtjkijnggjjoheaaW.PrintWords Go.Proofs.YtjkijnggjjoheaaW.PrintLast Go.Proofs.YtjkijnggjjoheaaW.PrintMore
attribute [local go_sem] max2_int min2_int max_two min_two max_three min_three max_four min_four   -- for this text's walks alone
set_option linter.unusedVariables false
set_option linter.unusedSimpArgs false

end Go.Proofs.Ytjkijnggjjoheaa.PFnLitPresses
