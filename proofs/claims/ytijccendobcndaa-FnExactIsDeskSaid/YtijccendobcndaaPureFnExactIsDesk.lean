/- FnExactIsDesk: the law, as a statement on lists and numbers: for every input its value is true. Conditions: the sizes that the statement names. -/
import Derived.Test.YtijccendobcndaaQFnExactIsDesk0
namespace Go.Proofs.Ytijccendobcndaa.Pure
open Go.RowKit Go.Proofs.Ytijccendobcndaa.PFnExactIsDesk Go.Proofs.YtijccendobcndaaW.PrintWords Go.Proofs.YtijccendobcndaaW.PrintLast Go.Proofs.YtijccendobcndaaW.PrintMore Go.Proofs.YtijccendobcndaaM
set_option linter.unusedVariables false
set_option linter.unusedSimpArgs false
theorem FnExactIsDesk : laws_FnExactIsDesk.Pure := by
  intro l own s h1 h2 _ _
  have hl : l.length ≤ 35184372088832 := by omega
  by_cases e2 : (1048576 : Int) < l.length
  · refine ⟨0, ?_⟩
    unfold laws_FnExactIsDesk.f
    rw [laws_szDesk.eq l own s 1048576 (by omega) (by omega) hl, if_pos e2]
    rfl
  · obtain ⟨K1, hK1⟩ := ev_and (spec_IsDesk.ev l own s (by omega)) (impl_IsDesk.ev l own s)
    obtain ⟨K2, hK2⟩ := ev_and (laws_toDesk.ev l own s hl) (laws_eqDesk.ev l own s l own s (by omega))
    refine ⟨K1 + K2, ?_⟩
    have a1 := hK1 (K1 + K2) (by omega)
    have a2 := hK2 (K1 + K2) (by omega)
    unfold laws_FnExactIsDesk.f
    rw [laws_szDesk.eq l own s 1048576 (by omega) (by omega) hl, if_neg e2, Option.bind_some, if_neg (by omega)]
    simp only [a2.1, a1.1, a1.2, a2.2, Option.bind_some, bne_self_eq_false, Bool.false_eq_true, if_false, decide_true, beq_self_eq_true, Bool.and_self, if_true]
end Go.Proofs.Ytijccendobcndaa.Pure
