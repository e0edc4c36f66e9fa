/- Plain laws: the reference's solver and the other know the same. No program in sight. -/
import Derived.Test.YtlohlngmagpepaaM25
import Derived.Test.YtlohlngmagpepaaM26
namespace Go.Proofs.YtlohlngmagpepaaM
open Go.RowKit Go.Proofs.YtlohlngmagpepaaW.PrintWords Go.Proofs.YtlohlngmagpepaaW.PrintLast Go.Proofs.YtlohlngmagpepaaW.PrintMore
set_option linter.unusedVariables false
set_option linter.unusedSimpArgs false
def boardOk (l : List Int) (s : Int) : Bool := good l && inSet l.length s
theorem boardOk_of {l : List Int} {s : Int} (h : boardOk l s = true) : GoodG l ∧ inSet l.length s = true := by
  simp only [boardOk, Bool.and_eq_true] at h
  exact ⟨(good_iff l).1 h.1, h.2⟩
end Go.Proofs.YtlohlngmagpepaaM
