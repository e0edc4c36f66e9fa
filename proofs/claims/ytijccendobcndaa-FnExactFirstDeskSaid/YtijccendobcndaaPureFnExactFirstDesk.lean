/- FnExactFirstDesk: the law, as a statement on lists and numbers: for every input its value is true. Conditions: the sizes that the statement names. -/
import Derived.Test.YtijccendobcndaaQFnExactFirstDesk0
namespace Go.Proofs.Ytijccendobcndaa.Pure
open Go.RowKit Go.Proofs.Ytijccendobcndaa.PFnExactFirstDesk Go.Proofs.YtijccendobcndaaW.PrintWords Go.Proofs.YtijccendobcndaaW.PrintLast Go.Proofs.YtijccendobcndaaW.PrintMore Go.Proofs.YtijccendobcndaaM
set_option linter.unusedVariables false
set_option linter.unusedSimpArgs false
theorem FnExactFirstDesk : laws_FnExactFirstDesk.Pure := ⟨12, by decide +kernel⟩
end Go.Proofs.Ytijccendobcndaa.Pure
