/- Plain laws on polynomials of maps. No program in sight. -/
import Derived.Test.YtlohlngmagpepaaGreatM2
import Derived.Test.YtlohlngmagpepaaGreatM4
namespace Go.Proofs.YtlohlngmagpepaaGreatM
open Go.RowKit Go.Proofs.YtlohlngmagpepaaGreatW.PrintWords Go.Proofs.YtlohlngmagpepaaGreatW.PrintLast Go.Proofs.YtlohlngmagpepaaGreatW.PrintMore
set_option linter.unusedVariables false
set_option linter.unusedSimpArgs false
/-- The map that takes each set to itself: 1, 2, 4, .. -/
def oneMap (n : Nat) : List Int := (List.range' 0 n).map fun i => ((2 ^ i : Nat) : Int)
theorem oneMap_length (n : Nat) : (oneMap n).length = n := by simp [oneMap]
theorem oneMap_bounds (n : Nat) : ∀ x ∈ oneMap n, 0 ≤ x ∧ x < 2 ^ n := by
  intro x hx
  unfold oneMap at hx
  rw [List.mem_map] at hx
  obtain ⟨i, hi, rfl⟩ := hx
  rw [List.mem_range'] at hi
  obtain ⟨j, hj, rfl⟩ := hi
  refine ⟨Int.natCast_nonneg _, ?_⟩
  have : 2 ^ (0 + 1 * j) < 2 ^ n := Nat.pow_lt_pow_right (by decide) (by omega)
  exact_mod_cast this
def polyGo (m : List Int) (p : Nat) : Nat → List Int → List Int
  | 0, o => o
  | k + 1, o => polyGo m p k (if p.testBit k = true then addSets (o.map (applyMap m)) (oneMap m.length) else o.map (applyMap m))
/-- The polynomial p of a map. -/
def polyMap (m : List Int) (p : Nat) : List Int := polyGo m p (blen p) (List.replicate m.length 0)
/-- Is a number one of a polynomial? -/
def isPoly (p : Int) : Bool := decide (0 ≤ p) && decide (p ≤ 2199023255551)
theorem step_bounds (m : List Int) (hm : ∀ x ∈ m, 0 ≤ x ∧ x < 2 ^ m.length) (o : List Int) (b : Bool) (hl : o.length = m.length) :
    (∀ x ∈ o.map (applyMap m), 0 ≤ x ∧ x < 2 ^ m.length) ∧ (∀ x ∈ (if b = true then addSets (o.map (applyMap m)) (oneMap m.length) else o.map (applyMap m)), 0 ≤ x ∧ x < 2 ^ m.length) ∧ (if b = true then addSets (o.map (applyMap m)) (oneMap m.length) else o.map (applyMap m)).length = m.length := by
  have h1 : ∀ x ∈ o.map (applyMap m), 0 ≤ x ∧ x < 2 ^ m.length := by
    intro x hx
    rw [List.mem_map] at hx
    obtain ⟨y, _, rfl⟩ := hx
    exact applyMap_bounds m y m.length hm
  refine ⟨h1, ?_, ?_⟩
  · split
    · exact addSets_bounds m.length _ _ h1 (oneMap_bounds m.length)
    · exact h1
  · split
    · rw [addSets_length, List.length_map, oneMap_length, hl, Nat.min_self]
    · rw [List.length_map, hl]
theorem polyGo_length (m : List Int) (hm : ∀ x ∈ m, 0 ≤ x ∧ x < 2 ^ m.length) (p : Nat) : ∀ (k : Nat) (o : List Int), o.length = m.length → (polyGo m p k o).length = m.length
  | 0, o, h => h
  | k + 1, o, h => polyGo_length m hm p k _ (step_bounds m hm o (p.testBit k) h).2.2
theorem polyMap_length (m : List Int) (hm : ∀ x ∈ m, 0 ≤ x ∧ x < 2 ^ m.length) (p : Nat) : (polyMap m p).length = m.length := polyGo_length m hm p _ _ (by simp)
theorem polyGo_bounds (m : List Int) (hm : ∀ x ∈ m, 0 ≤ x ∧ x < 2 ^ m.length) (p : Nat) : ∀ (k : Nat) (o : List Int), o.length = m.length → (∀ x ∈ o, 0 ≤ x ∧ x < 2 ^ m.length) → ∀ x ∈ polyGo m p k o, 0 ≤ x ∧ x < 2 ^ m.length
  | 0, o, _, h => h
  | k + 1, o, hl, h => polyGo_bounds m hm p k _ (step_bounds m hm o (p.testBit k) hl).2.2 (step_bounds m hm o (p.testBit k) hl).2.1
theorem zeros_bounds (n k : Nat) : ∀ x ∈ List.replicate k (0 : Int), 0 ≤ x ∧ x < 2 ^ n := by
  intro x hx
  rw [List.mem_replicate] at hx
  rw [hx.2]
  exact ⟨by omega, Int.pow_pos (by decide)⟩
theorem polyMap_bounds (m : List Int) (hm : ∀ x ∈ m, 0 ≤ x ∧ x < 2 ^ m.length) (p : Nat) : ∀ x ∈ polyMap m p, 0 ≤ x ∧ x < 2 ^ m.length := polyGo_bounds m hm p _ _ (by simp) (zeros_bounds m.length m.length)
end Go.Proofs.YtlohlngmagpepaaGreatM
