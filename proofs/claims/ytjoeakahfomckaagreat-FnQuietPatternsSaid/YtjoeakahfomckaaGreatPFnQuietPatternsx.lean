-- Written by a program of this session (wip/tools/mp.py) around the kit's printer; Lean checks it.
import Derived.Test.YtjoeakahfomckaaGreatPFnQuietPatternsx0
import Derived.Test.YtjoeakahfomckaaGreatPFnQuietPatternsx1
import Derived.Test.YtjoeakahfomckaaGreatPFnQuietPatternsx2
import Derived.Test.YtjoeakahfomckaaGreatPFnQuietPatternsx3
import Derived.Test.YtjoeakahfomckaaGreatPFnQuietPatternsx4
import Derived.Test.YtjoeakahfomckaaGreatPFnQuietPatternsx5
import Derived.Test.YtjoeakahfomckaaGreatPFnQuietPatternsx6
import Derived.Test.YtjoeakahfomckaaGreatPFnQuietPatternsx7
import Derived.Test.YtjoeakahfomckaaGreatPFnQuietPatternsx8
import Derived.Test.YtjoeakahfomckaaGreatPFnQuietPatternsx9
namespace Go.Proofs.YtjoeakahfomckaaGreat.PFnQuietPatterns
open Go.RowKit Go.Proofs.YtjoeakahfomckaaGreatW.PrintWords Go.Proofs.YtjoeakahfomckaaGreatW.PrintLast Go.Proofs.YtjoeakahfomckaaGreatW.PrintMore
attribute [local go_sem] max2_int min2_int max_two min_two max_three min_three max_four min_four   -- for this text's walks alone
set_option linter.unusedVariables false
set_option linter.unusedSimpArgs false

end Go.Proofs.YtjoeakahfomckaaGreat.PFnQuietPatterns
