/- FnExactAddMaps: the law, as a statement on lists and numbers: for every input its value is true. Conditions: the sizes that the statement names. -/
import Derived.Test.YtijccendobcndaaQFnExactAddMaps0
namespace Go.Proofs.Ytijccendobcndaa.Pure
open Go.RowKit Go.Proofs.Ytijccendobcndaa.PFnExactAddMaps Go.Proofs.YtijccendobcndaaW.PrintWords Go.Proofs.YtijccendobcndaaW.PrintLast Go.Proofs.YtijccendobcndaaW.PrintMore Go.Proofs.YtijccendobcndaaM
set_option linter.unusedVariables false
set_option linter.unusedSimpArgs false
theorem FnExactAddMaps : laws_FnExactAddMaps.Pure := by
  intro a b h1 h2 _ h3 h4 _
  have hla : a.length ≤ 35184372088832 := by omega
  have hlb : b.length ≤ 35184372088832 := by omega
  by_cases e1 : (a.length : Int) > 1048576
  · exact ⟨0, by unfold laws_FnExactAddMaps.f; rw [if_pos e1]⟩
  · by_cases e2 : (b.length : Int) > 1048576
    · exact ⟨0, by unfold laws_FnExactAddMaps.f; rw [if_neg e1, if_pos e2]⟩
    · obtain ⟨K1, hK1⟩ := ev_and (spec_AddMaps.ev a b (by omega) (by omega)) (impl_AddMaps.ev a b (by omega) (by omega))
      obtain ⟨V, f, hv⟩ : ∃ V f, (if (goodMap a && goodMap b && decide (a.length = b.length)) = true then (addSets a b, true) else (([] : List Int), false)) = (V, f) := ⟨_, _, rfl⟩
      have hV : V.length ≤ 1048576 := by
        split at hv
        · injection hv with hv _; rw [← hv]; simp [addSets]; omega
        · injection hv with hv _; rw [← hv]; simp
      rw [hv] at hK1
      obtain ⟨K2, hK2⟩ := ev_and (laws_toIntS.ev a hla) (laws_toIntS.ev b hlb)
      obtain ⟨K3, hK3⟩ := ev_and (laws_eqIntS.ev a a (by omega)) (laws_eqIntS.ev b b (by omega))
      obtain ⟨K4, hK4⟩ := ev_and (laws_eqIntS.ev V V (by omega)) (laws_markIntS.ev V 1 (by omega) (by omega))
      obtain ⟨K5, hK5⟩ := ev_and (laws_markIntS.ev a 1 (by omega) (by omega)) (laws_markIntS.ev b (1 + a.length) (by omega) (by omega))
      obtain ⟨K6, hK6⟩ := laws_heldIntS.ev V.length 1 (by omega) (by omega)
      have all : ∀ n, K1 + K2 + K3 + K4 + K5 + K6 ≤ n → _ := fun n hn => And.intro (hK1 n (by omega)) (And.intro (hK2 n (by omega)) (And.intro (hK3 n (by omega)) (And.intro (hK4 n (by omega)) (And.intro (hK5 n (by omega)) (hK6 n (by omega))))))
      generalize K1 + K2 + K3 + K4 + K5 + K6 = K at all
      have s0 := fun n hn => (all n hn).1.1
      have s1 := fun n hn => (all n hn).1.2
      have s2 := fun n hn => (all n hn).2.1.1
      have s3 := fun n hn => (all n hn).2.1.2
      have s4 := fun n hn => (all n hn).2.2.1.1
      have s5 := fun n hn => (all n hn).2.2.1.2
      have s6 := fun n hn => (all n hn).2.2.2.1.1
      have s7 := fun n hn => (all n hn).2.2.2.1.2
      have s8 := fun n hn => (all n hn).2.2.2.2.1.1
      have s9 := fun n hn => (all n hn).2.2.2.2.1.2
      have s10 : ∀ n, K ≤ n → laws_heldIntS.f n (marks V.length 1) 1 = some (1 + (V.length : Int)) := fun n hn => (all n hn).2.2.2.2.2
      clear all
      refine ⟨K + 3, ?_⟩
      have n1 : ¬ (1 + (a.length : Int) + b.length < 0) := by omega
      have n2 : ¬ (1 + (V.length : Int) < 0) := by omega
      have c : ∀ j, K ≤ K + j := fun j => Nat.le_add_right _ _
      unfold laws_FnExactAddMaps.f
      simp only [if_neg e1, if_neg e2, s2 _ (c 3), s3 _ (c 3), s0 _ (c 3), s1 _ (c 3), s6 _ (c 3), Option.bind_some, decide_true, if_true, bne_self_eq_false]
      simp only [laws_FnExactAddMaps.j0, s2 _ (c 2), s3 _ (c 2), s4 _ (c 2), s5 _ (c 2), s6 _ (c 2), s8 _ (c 2), s9 _ (c 2), Option.bind_some, decide_true, if_true, bne_self_eq_false, Bool.false_eq_true, if_false, if_neg n1]
      simp only [laws_FnExactAddMaps.j1, s2 _ (c 1), s3 _ (c 1), s1 _ (c 1), s6 _ (c 1), s7 _ (c 1), s10 _ (c 1), Option.bind_some, decide_true, if_true, bne_self_eq_false, Bool.false_eq_true, if_false, if_neg n2]
      simp only [laws_FnExactAddMaps.j2, s10 _ (Nat.le_refl _), Option.bind_some, Bool.false_eq_true, if_false, if_neg n2, if_true]
end Go.Proofs.Ytijccendobcndaa.Pure
