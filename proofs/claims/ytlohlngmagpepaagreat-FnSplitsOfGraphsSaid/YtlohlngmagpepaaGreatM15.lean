/- Plain laws on the forms of all sets with a given effect. No program in sight. -/
import Derived.Test.YtlohlngmagpepaaGreatM3
import Derived.Test.YtlohlngmagpepaaGreatM17
namespace Go.Proofs.YtlohlngmagpepaaGreatM
open Go.RowKit Go.Proofs.YtlohlngmagpepaaGreatW.PrintWords Go.Proofs.YtlohlngmagpepaaGreatW.PrintLast Go.Proofs.YtlohlngmagpepaaGreatW.PrintMore
set_option linter.unusedVariables false
set_option linter.unusedSimpArgs false
def formsGo (l : List Int) (a : Int) : Nat → Nat → Bool → Bool → Bool × Bool
  | 0, _, m0, m1 => (m0, m1)
  | d + 1, i, m0, m1 => if (effFrom l false (i : Int) l.length 0 0 : Int) = a then (if formOf l (i : Int) = 0 then formsGo l a d (i + 1) true m1 else formsGo l a d (i + 1) m0 true) else formsGo l a d (i + 1) m0 m1
def formsEnd (m : Bool × Bool) : Int × Bool := if m.1 = m.2 then (0, false) else if m.2 = true then (1, true) else (0, true)
end Go.Proofs.YtlohlngmagpepaaGreatM
