-- Written by a program of this session (wip/tools/mp.py) around the kit's printer; Lean checks it.
import Derived.Test.YtjocpjjimhefjaaGreatPFnFormStaysx0
import Derived.Test.YtjocpjjimhefjaaGreatPFnFormStaysx1
import Derived.Test.YtjocpjjimhefjaaGreatPFnFormStaysx2
import Derived.Test.YtjocpjjimhefjaaGreatPFnFormStaysx3
import Derived.Test.YtjocpjjimhefjaaGreatPFnFormStaysx4
import Derived.Test.YtjocpjjimhefjaaGreatPFnFormStaysx5
import Derived.Test.YtjocpjjimhefjaaGreatPFnFormStaysx6
import Derived.Test.YtjocpjjimhefjaaGreatPFnFormStaysx7
import Derived.Test.YtjocpjjimhefjaaGreatPFnFormStaysx8
import Derived.Test.YtjocpjjimhefjaaGreatPFnFormStaysx9
import Derived.Test.YtjocpjjimhefjaaGreatPFnFormStaysx10
import Derived.Test.YtjocpjjimhefjaaGreatPFnFormStaysx11
namespace Go.Proofs.YtjocpjjimhefjaaGreat.PFnFormStays
open Go.RowKit Go.Proofs.YtjocpjjimhefjaaGreatW.PrintWords Go.Proofs.YtjocpjjimhefjaaGreatW.PrintLast Go.Proofs.YtjocpjjimhefjaaGreatW.PrintMore
attribute [local go_sem] max2_int min2_int max_two min_two max_three min_three max_four min_four   -- for this text's walks alone
set_option linter.unusedVariables false
set_option linter.unusedSimpArgs false
end Go.Proofs.YtjocpjjimhefjaaGreat.PFnFormStays
