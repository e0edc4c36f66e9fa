/- FnExactTorusNullity: the law, as a statement on lists and numbers: for every input its value is true. Conditions: the sizes that the statement names. -/
import Derived.Test.YtcdphbpbfmjheaaQFnExactTorusNullity0
import Derived.Test.YtcdphbpbfmjheaaQFnExactTorusNullity1
namespace Go.Proofs.Ytcdphbpbfmjheaa.Pure
open Go.RowKit Go.Proofs.Ytcdphbpbfmjheaa.PFnExactTorusNullity Go.Proofs.YtcdphbpbfmjheaaW.PrintWords Go.Proofs.YtcdphbpbfmjheaaW.PrintLast Go.Proofs.YtcdphbpbfmjheaaW.PrintMore Go.Proofs.YtcdphbpbfmjheaaM
set_option linter.unusedVariables false
set_option linter.unusedSimpArgs false
theorem FnExactTorusNullity : laws_FnExactTorusNullity.Pure := by
  intro a c own _ _
  obtain ⟨K1, hK1⟩ := ev_and (spec_TorusNullity.ev a c own) (impl_TorusNullity.ev a c own)
  refine ⟨K1, ?_⟩
  have a1 := hK1 K1 (Nat.le_refl _)
  unfold laws_FnExactTorusNullity.f
  rw [a1.1, Option.bind_some, a1.2, Option.bind_some, if_pos rfl, bne_self_eq_false, if_neg (by decide)]
end Go.Proofs.Ytcdphbpbfmjheaa.Pure
