/- What the functions of FnExactOrbitSizes compute, in plain words. -/
import Derived.Test.YtokgnjbnckmndaaPFnExactOrbitSizesx12
import Derived.Test.YtokgnjbnckmndaaM1
import Derived.Test.YtokgnjbnckmndaaM2
import Derived.Test.YtokgnjbnckmndaaM3
import Derived.Test.YtokgnjbnckmndaaM4
import Derived.Test.YtokgnjbnckmndaaM6
import Derived.Test.YtokgnjbnckmndaaM7
import Derived.Test.YtokgnjbnckmndaaM9
import Derived.Test.YtokgnjbnckmndaaM12
import Derived.Test.YtokgnjbnckmndaaM13
import Derived.Test.YtokgnjbnckmndaaQFnExactOrbitSizes0
namespace Go.Proofs.Ytokgnjbnckmndaa.Pure
open Go.RowKit Go.Proofs.Ytokgnjbnckmndaa.PFnExactOrbitSizes Go.Proofs.YtokgnjbnckmndaaW.PrintWords Go.Proofs.YtokgnjbnckmndaaW.PrintLast Go.Proofs.YtokgnjbnckmndaaW.PrintMore Go.Proofs.YtokgnjbnckmndaaM
set_option linter.unusedVariables false
set_option linter.unusedSimpArgs false
/-! impl_OrbitSizes -/
theorem impl_OrbitSizes.loop (l : List Int) (d : Nat) (hsl : (starts l).length ≤ 512) :
    ∀ i : Nat, i + d = (starts l).length → Ev (fun k => impl_OrbitSizes.l0 k (ints ((orbitSizes l).take i)) ((starts l).map fun s => ints (orbitOf l false s)) ((starts l).length : Int) (i : Int)) (ints (sortedSizes l), true) := by
  have hol : (orbitSizes l).length = (starts l).length := by unfold orbitSizes; rw [List.length_map]
  induction d with
  | zero =>
    intro i hd
    refine now fun k => ?_
    simp only [impl_OrbitSizes.l0]
    rw [if_neg (by omega), List.take_of_length_le (by omega)]
    unfold slices_Sort_int_int.f
    rw [if_pos (by rw [ints_length]; omega), sort_sizes, Option.bind_some]
  | succ d ih =>
    intro i hd
    have hlt : i < (starts l).length := by omega
    have e1 : ((rd_L2 ((starts l).map fun s => ints (orbitOf l false s)) (i : Int)).length : Int) = (((orbitSizes l)[i]'(by omega) : Nat) : Int) := by
      unfold rd_L2
      rw [Int.toNat_natCast, List.getD_eq_getElem?_getD, List.getElem?_map, List.getElem?_eq_getElem hlt]
      simp [orbitSizes, ints]
    refine Ev.step (f := fun k => impl_OrbitSizes.l0 k (ints ((orbitSizes l).take (i + 1))) ((starts l).map fun s => ints (orbitOf l false s)) ((starts l).length : Int) ((i + 1 : Nat) : Int)) (fun k => ?_) (ih (i + 1) (by omega))
    simp only [impl_OrbitSizes.l0]
    rw [if_pos (by omega), if_pos (by omega), if_pos (by rw [List.length_map]; omega), if_pos (by rw [ints_length, List.length_take]; omega), e1, wrap_succ i (by omega), List.take_succ_eq_append_getElem (by omega), ints_append]
    rfl
theorem impl_OrbitSizes.ev (l : List Int) (own : Bool) : Ev (fun k => impl_OrbitSizes.f k l own) (if (good l && decide (l.length ≤ 9)) = true then (ints (sortedSizes l), true) else ([], false)) := by
  obtain ⟨K, hK⟩ := impl_isLit.ev l own []
  have ea : (good l && ([] : List Int).all (inSet l.length) && decide (l.length ≤ 9)) = (good l && decide (l.length ≤ 9)) := by
    simp only [List.all_nil, Bool.and_true]
  rw [ea] at hK
  cases e1 : (good l && decide (l.length ≤ 9))
  · refine ⟨K, fun k hk => ?_⟩
    have h1 : impl_isLit.f k l own [] = _ := hK k hk
    show impl_OrbitSizes.f k l own = _
    unfold impl_OrbitSizes.f
    rw [h1, Option.bind_some, e1]
    rfl
  · have e1' := e1
    simp only [Bool.and_eq_true, decide_eq_true_eq] at e1'
    have hG := (good_iff l).1 e1'.1
    have h9 := pow9 e1'.2
    have hsl := starts_length l
    obtain ⟨K2, hK2⟩ := ev_and (impl_Graph_orbits.ev l own hG e1'.2) (impl_OrbitSizes.loop l (starts l).length (by omega) 0 (by omega))
    refine ⟨K + K2, fun k hk => ?_⟩
    have h1 : impl_isLit.f k l own [] = _ := hK k (by omega)
    obtain ⟨h2, h3⟩ := hK2 k (by omega)
    show impl_OrbitSizes.f k l own = _
    unfold impl_OrbitSizes.f
    rw [h1, Option.bind_some, e1, if_pos rfl, h2, Option.bind_some, List.length_map]
    exact h3
end Go.Proofs.Ytokgnjbnckmndaa.Pure
