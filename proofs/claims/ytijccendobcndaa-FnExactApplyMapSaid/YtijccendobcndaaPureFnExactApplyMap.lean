/- FnExactApplyMap: the law, as a statement on lists and numbers: for every input its value is true. Conditions: the sizes that the statement names. -/
import Derived.Test.YtijccendobcndaaQFnExactApplyMap0
namespace Go.Proofs.Ytijccendobcndaa.Pure
open Go.RowKit Go.Proofs.Ytijccendobcndaa.PFnExactApplyMap Go.Proofs.YtijccendobcndaaW.PrintWords Go.Proofs.YtijccendobcndaaW.PrintLast Go.Proofs.YtijccendobcndaaW.PrintMore Go.Proofs.YtijccendobcndaaM
set_option linter.unusedVariables false
set_option linter.unusedSimpArgs false
theorem FnExactApplyMap : laws_FnExactApplyMap.Pure := by
  intro m s h1 h2 _ _
  have hl : m.length ≤ 35184372088832 := by omega
  by_cases e1 : (m.length : Int) > 1048576
  · exact ⟨0, by unfold laws_FnExactApplyMap.f; rw [if_pos e1]⟩
  · obtain ⟨K1, hK1⟩ := ev_and (spec_ApplyMap.ev m s (by omega)) (impl_ApplyMap.ev m s (by omega))
    obtain ⟨K2, hK2⟩ := ev_and (laws_toIntS.ev m hl) (laws_eqIntS.ev m m (by omega))
    refine ⟨K1 + K2 + 1, ?_⟩
    have a1 := hK1 (K1 + K2 + 1) (by omega)
    have a2 := hK2 (K1 + K2 + 1) (by omega)
    have b2 := hK2 (K1 + K2) (by omega)
    unfold laws_FnExactApplyMap.f
    rw [if_neg e1, a2.1, Option.bind_some, a1.1, Option.bind_some, Option.bind_some, a1.2, Option.bind_some, if_pos rfl]
    simp only [laws_FnExactApplyMap.j0, b2.1, b2.2, Option.bind_some, bne_self_eq_false, Bool.false_eq_true, if_false, decide_true, if_true]
end Go.Proofs.Ytijccendobcndaa.Pure
