/- FnExactFormOfLights: the law, as a statement on lists and numbers: for every input its value is true. Conditions: the sizes that the statement names. -/
import Derived.Test.YtcdphbpbfmjheaaQFnExactFormOfLights0
namespace Go.Proofs.Ytcdphbpbfmjheaa.Pure
open Go.RowKit Go.Proofs.Ytcdphbpbfmjheaa.PFnExactFormOfLights Go.Proofs.YtcdphbpbfmjheaaW.PrintWords Go.Proofs.YtcdphbpbfmjheaaW.PrintLast Go.Proofs.YtcdphbpbfmjheaaW.PrintMore Go.Proofs.YtcdphbpbfmjheaaM
set_option linter.unusedVariables false
set_option linter.unusedSimpArgs false
theorem FnExactFormOfLights : laws_FnExactFormOfLights.Pure := by
  intro l own s h1 h2 _ _
  have hl : l.length ≤ 35184372088832 := by omega
  by_cases e2 : (1048576 : Int) < l.length
  · refine ⟨0, ?_⟩
    unfold laws_FnExactFormOfLights.f
    rw [laws_szGraph.eq l own 1048576 (by omega) (by omega) hl, if_pos e2]
    rfl
  · obtain ⟨K1, hK1⟩ := ev_and (spec_FormOfLights.ev l own s (by omega)) (impl_FormOfLights.ev l own s)
    obtain ⟨K2, hK2⟩ := ev_and (laws_toGraph.ev l own hl) (laws_eqGraph.ev l own l own (by omega))
    refine ⟨K1 + K2 + 1, ?_⟩
    have a1 := hK1 (K1 + K2 + 1) (by omega)
    have a2 := hK2 (K1 + K2 + 1) (by omega)
    have b2 := hK2 (K1 + K2) (by omega)
    unfold laws_FnExactFormOfLights.f
    rw [laws_szGraph.eq l own 1048576 (by omega) (by omega) hl, if_neg e2, Option.bind_some, if_neg (by omega), a2.1, Option.bind_some, a1.1, Option.bind_some, Option.bind_some, a1.2, Option.bind_some, if_pos rfl]
    simp only [laws_FnExactFormOfLights.j0, b2.1, b2.2, Option.bind_some, bne_self_eq_false, Bool.false_eq_true, if_false, decide_true, beq_self_eq_true, Bool.and_self, if_true]
end Go.Proofs.Ytcdphbpbfmjheaa.Pure
