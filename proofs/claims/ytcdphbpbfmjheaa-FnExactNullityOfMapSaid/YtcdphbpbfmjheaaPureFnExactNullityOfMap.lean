/- FnExactNullityOfMap: the law, as a statement on lists and numbers: for every input its value is true. Conditions: the sizes that the statement names. -/
import Derived.Test.YtcdphbpbfmjheaaQFnExactNullityOfMap0
namespace Go.Proofs.Ytcdphbpbfmjheaa.Pure
open Go.RowKit Go.Proofs.Ytcdphbpbfmjheaa.PFnExactNullityOfMap Go.Proofs.YtcdphbpbfmjheaaW.PrintWords Go.Proofs.YtcdphbpbfmjheaaW.PrintLast Go.Proofs.YtcdphbpbfmjheaaW.PrintMore Go.Proofs.YtcdphbpbfmjheaaM
set_option linter.unusedVariables false
set_option linter.unusedSimpArgs false
theorem FnExactNullityOfMap : laws_FnExactNullityOfMap.Pure := by
  intro m h1 h2 _
  have hl : m.length ≤ 35184372088832 := by omega
  by_cases e1 : (m.length : Int) > 1048576
  · exact ⟨0, by unfold laws_FnExactNullityOfMap.f; rw [if_pos e1]⟩
  · obtain ⟨K1, hK1⟩ := ev_and (spec_NullityOfMap.ev m (by omega)) (impl_NullityOfMap.ev m (by omega))
    obtain ⟨K2, hK2⟩ := ev_and (laws_toIntS.ev m hl) (laws_eqIntS.ev m m (by omega))
    refine ⟨K1 + K2 + 1, ?_⟩
    have a1 := hK1 (K1 + K2 + 1) (by omega)
    have a2 := hK2 (K1 + K2 + 1) (by omega)
    have b2 := hK2 (K1 + K2) (by omega)
    unfold laws_FnExactNullityOfMap.f
    rw [if_neg e1, a2.1, Option.bind_some, a1.1, Option.bind_some, Option.bind_some, a1.2, Option.bind_some, if_pos rfl]
    simp only [laws_FnExactNullityOfMap.j0, b2.1, b2.2, Option.bind_some, bne_self_eq_false, Bool.false_eq_true, if_false, decide_true, if_true]
end Go.Proofs.Ytcdphbpbfmjheaa.Pure
