/- Plain laws on all orbits: their least sets and their sizes; the fewest lights of one. No program in sight. -/
import Derived.Test.YtjkijnggjjoheaaM9
namespace Go.Proofs.YtjkijnggjjoheaaM
open Go.RowKit Go.Proofs.YtjkijnggjjoheaaW.PrintWords Go.Proofs.YtjkijnggjjoheaaW.PrintLast Go.Proofs.YtjkijnggjjoheaaW.PrintMore
set_option linter.unusedVariables false
set_option linter.unusedSimpArgs false
/-- The fewest elements of a set of a list, or x. -/
def fewGo : List Nat → Nat → Nat
  | [], x => x
  | s :: r, x => fewGo r (if pop s < x then pop s else x)
theorem fewGo_le : ∀ (l : List Nat) (x : Nat), fewGo l x ≤ x
  | [], x => Nat.le_refl _
  | s :: r, x => by
    have := fewGo_le r (if pop s < x then pop s else x)
    unfold fewGo
    split at this
    · next h => rw [if_pos h]; omega
    · next h => rw [if_neg h]; exact this
theorem orbitOf_lt (l : List Int) (r : Bool) (s : Nat) : ∀ x ∈ orbitOf l r s, x < 2 ^ l.length := fun x hx => by
  have := (List.mem_filter.1 hx).1
  exact List.mem_range.1 this
end Go.Proofs.YtjkijnggjjoheaaM
