/- Plain laws on odd dominating sets, how many there are, and on the parts as a list. No program in sight. -/
import Derived.Test.YtlohlngmagpepaaM37
import Derived.Test.YtlohlngmagpepaaM38
import Derived.Test.YtlohlngmagpepaaM30
namespace Go.Proofs.YtlohlngmagpepaaM
open Go.RowKit Go.Proofs.YtlohlngmagpepaaW.PrintWords Go.Proofs.YtlohlngmagpepaaW.PrintLast Go.Proofs.YtlohlngmagpepaaW.PrintMore
set_option linter.unusedVariables false
set_option linter.unusedSimpArgs false
theorem orAll_take {ps : List Nat} {k : Nat} (h : k < ps.length) : orAll (ps.take (k + 1)) = orAll (ps.take k) ||| ps[k] := by
  rw [List.take_succ_eq_append_getElem h, orAll_snoc]
end Go.Proofs.YtlohlngmagpepaaM
