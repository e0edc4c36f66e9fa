/- FnExactGridTable: the law, as a statement on lists and numbers: for every input its value is true. Conditions: the sizes that the statement names. -/
import Derived.Test.YtijccendobcndaaQFnExactGridTable0
namespace Go.Proofs.Ytijccendobcndaa.Pure
open Go.RowKit Go.Proofs.Ytijccendobcndaa.PFnExactGridTable Go.Proofs.YtijccendobcndaaW.PrintWords Go.Proofs.YtijccendobcndaaW.PrintLast Go.Proofs.YtijccendobcndaaW.PrintMore Go.Proofs.YtijccendobcndaaM
set_option linter.unusedVariables false
set_option linter.unusedSimpArgs false
theorem FnExactGridTable : laws_FnExactGridTable.Pure := by
  intro a own _
  obtain ⟨K1, hK1⟩ := ev_and (spec_GridTable.ev a own) (impl_GridTable.ev a own)
  obtain ⟨V, f, hv⟩ : ∃ V f, gridTable a own = (V, f) := ⟨_, _, rfl⟩
  have hV : V.length ≤ 1048576 := by
    unfold gridTable at hv
    split at hv
    · next e =>
      have h1 : 1 ≤ a ∧ a ≤ 40 := by simpa [isSide] using e
      injection hv with hv _
      rw [← hv]
      simp
      omega
    · injection hv with hv _
      rw [← hv]
      simp
  rw [hv] at hK1
  obtain ⟨K4, hK4⟩ := ev_and (laws_eqIntS.ev V V (by omega)) (laws_markIntS.ev V 1 (by omega) (by omega))
  obtain ⟨K5, hK5⟩ := laws_heldIntS.ev V.length 1 (by omega) (by omega)
  have all : ∀ n, K1 + K4 + K5 ≤ n → _ := fun n hn => And.intro (hK1 n (by omega)) (And.intro (hK4 n (by omega)) (hK5 n (by omega)))
  generalize K1 + K4 + K5 = K at all
  have s0 := fun n hn => (all n hn).1.1
  have s1 := fun n hn => (all n hn).1.2
  have s6 := fun n hn => (all n hn).2.1.1
  have s7 := fun n hn => (all n hn).2.1.2
  have s10 := fun n hn => (all n hn).2.2
  clear all
  refine ⟨K + 3, ?_⟩
  have n2 : ¬ (1 + (V.length : Int) < 0) := by omega
  have c : ∀ j, K ≤ K + j := fun j => Nat.le_add_right _ _
  unfold laws_FnExactGridTable.f
  simp only [s0 _ (c 3), s1 _ (c 3), s6 _ (c 3), Option.bind_some, decide_true, if_true, bne_self_eq_false]
  simp only [laws_FnExactGridTable.j0, s1 _ (c 2), s6 _ (c 2), s7 _ (c 2), s10 _ (c 2), Option.bind_some, decide_true, if_true, bne_self_eq_false, beq_self_eq_true, Bool.and_self, Bool.false_eq_true, if_false, if_neg n2]
  simp only [laws_FnExactGridTable.j1, s10 _ (c 1), Option.bind_some, Bool.false_eq_true, if_false, if_neg n2, if_true]
end Go.Proofs.Ytijccendobcndaa.Pure
