/- FnExactWayTo: the law, as a statement on lists and numbers: for every input its value is true. Conditions: the sizes that the statement names. -/
import Derived.Test.YtcdphbpbfmjheaaQFnExactWayTo0
namespace Go.Proofs.Ytcdphbpbfmjheaa.Pure
open Go.RowKit Go.Proofs.Ytcdphbpbfmjheaa.PFnExactWayTo Go.Proofs.YtcdphbpbfmjheaaW.PrintWords Go.Proofs.YtcdphbpbfmjheaaW.PrintLast Go.Proofs.YtcdphbpbfmjheaaW.PrintMore Go.Proofs.YtcdphbpbfmjheaaM
set_option linter.unusedVariables false
set_option linter.unusedSimpArgs false
theorem FnExactWayTo : laws_FnExactWayTo.Pure := by
  intro l own a g h1 h2 _ _ _
  have hl : l.length ≤ 35184372088832 := by omega
  by_cases e2 : (1048576 : Int) < l.length
  · refine ⟨0, ?_⟩
    unfold laws_FnExactWayTo.f
    rw [laws_szGraph.eq l own 1048576 (by omega) (by omega) hl, if_pos e2]
    rfl
  · obtain ⟨K1, hK1⟩ := ev_and (spec_WayTo.ev l own a g (by omega)) (impl_WayTo.ev l own a g)
    obtain ⟨V, f, hv⟩ : ∃ V f, (if (good l && decide (l.length ≤ 9) && inSet l.length a && inSet l.length g) = true then wayOf l a.toNat g.toNat else (([] : List Int), false)) = (V, f) := ⟨_, _, rfl⟩
    have hV : V.length ≤ 1048576 := by
      split at hv
      · next e =>
        simp only [Bool.and_eq_true, decide_eq_true_eq] at e
        have h9 := pow9 e.1.1.2
        have hG : GoodG l := (good_iff l).1 e.1.1.1
        have hg : 0 ≤ g ∧ g < 2 ^ l.length := by simpa [inSet] using e.2
        have hc := pow_cast l.length
        have := wayOf_length l hG a.toNat g.toNat (by omega)
        rw [hv] at this
        have h2 : V.length ≤ 2 ^ l.length := this
        omega
      · injection hv with hv _
        rw [← hv]
        simp
    rw [hv] at hK1
    obtain ⟨K2, hK2⟩ := ev_and (laws_toGraph.ev l own hl) (laws_eqGraph.ev l own l own (by omega))
    obtain ⟨K4, hK4⟩ := ev_and (laws_eqIntS.ev V V (by omega)) (laws_markIntS.ev V 1 (by omega) (by omega))
    obtain ⟨K5, hK5⟩ := ev_and (laws_markGraph.ev l own 1 (by omega) (by omega)) (laws_heldIntS.ev V.length 1 (by omega) (by omega))
    have all : ∀ n, K1 + K2 + K4 + K5 ≤ n → _ := fun n hn => And.intro (hK1 n (by omega)) (And.intro (hK2 n (by omega)) (And.intro (hK4 n (by omega)) (hK5 n (by omega))))
    generalize K1 + K2 + K4 + K5 = K at all
    have s0 := fun n hn => (all n hn).1.1
    have s1 := fun n hn => (all n hn).1.2
    have s2 := fun n hn => (all n hn).2.1.1
    have s3 := fun n hn => (all n hn).2.1.2
    have s6 := fun n hn => (all n hn).2.2.1.1
    have s7 := fun n hn => (all n hn).2.2.1.2
    have s8 := fun n hn => (all n hn).2.2.2.1
    have s10 := fun n hn => (all n hn).2.2.2.2
    clear all
    refine ⟨K + 3, ?_⟩
    have n1 : ¬ (1 + (l.length : Int) < 0) := by omega
    have n2 : ¬ (1 + (V.length : Int) < 0) := by omega
    have n3 : ¬ (1048576 - (l.length : Int) < 0) := by omega
    have c : ∀ j, K ≤ K + j := fun j => Nat.le_add_right _ _
    unfold laws_FnExactWayTo.f
    rw [laws_szGraph.eq l own 1048576 (by omega) (by omega) hl, if_neg e2, Option.bind_some, if_neg n3]
    simp only [s2 _ (c 3), s0 _ (c 3), s1 _ (c 3), s6 _ (c 3), Option.bind_some, decide_true, if_true, bne_self_eq_false]
    simp only [laws_FnExactWayTo.j0, s2 _ (c 2), s3 _ (c 2), s6 _ (c 2), s8 _ (c 2), Option.bind_some, decide_true, if_true, bne_self_eq_false, beq_self_eq_true, Bool.and_self, Bool.false_eq_true, if_false, if_neg n1]
    simp only [laws_FnExactWayTo.j1, s2 _ (c 1), s1 _ (c 1), s6 _ (c 1), s7 _ (c 1), s10 _ (c 1), Option.bind_some, decide_true, if_true, bne_self_eq_false, Bool.false_eq_true, if_false, if_neg n2]
    simp only [laws_FnExactWayTo.j2, s10 _ (Nat.le_refl _), Option.bind_some, Bool.false_eq_true, if_false, if_neg n2, if_true]
end Go.Proofs.Ytcdphbpbfmjheaa.Pure
