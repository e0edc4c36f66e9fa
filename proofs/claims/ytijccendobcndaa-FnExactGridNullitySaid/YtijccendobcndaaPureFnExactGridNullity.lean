/- FnExactGridNullity: the law, as a statement on lists and numbers: for every input its value is true. Conditions: the sizes that the statement names. -/
import Derived.Test.YtijccendobcndaaQFnExactGridNullity0
namespace Go.Proofs.Ytijccendobcndaa.Pure
open Go.RowKit Go.Proofs.Ytijccendobcndaa.PFnExactGridNullity Go.Proofs.YtijccendobcndaaW.PrintWords Go.Proofs.YtijccendobcndaaW.PrintLast Go.Proofs.YtijccendobcndaaW.PrintMore Go.Proofs.YtijccendobcndaaM
set_option linter.unusedVariables false
set_option linter.unusedSimpArgs false
theorem FnExactGridNullity : laws_FnExactGridNullity.Pure := by
  intro a b own _ _
  obtain ⟨K1, hK1⟩ := ev_and (spec_GridNullity.ev a b own) (impl_GridNullity.ev a b own)
  refine ⟨K1, ?_⟩
  have a1 := hK1 K1 (Nat.le_refl _)
  unfold laws_FnExactGridNullity.f
  rw [a1.1, Option.bind_some, a1.2, Option.bind_some, if_pos rfl, bne_self_eq_false, if_neg (by decide)]
end Go.Proofs.Ytijccendobcndaa.Pure
