/- Plain laws on presses: what a word of buttons does, what a set of buttons does. No program in sight. -/
import Derived.Test.YtlohlngmagpepaaM2
namespace Go.Proofs.YtlohlngmagpepaaM
open Go.RowKit Go.Proofs.YtlohlngmagpepaaW.PrintWords Go.Proofs.YtlohlngmagpepaaW.PrintLast Go.Proofs.YtlohlngmagpepaaW.PrintMore
set_option linter.unusedVariables false
set_option linter.unusedSimpArgs false
theorem pow_cast (n : Nat) : ((2 ^ n : Nat) : Int) = (2 : Int) ^ n := by simp
def sumX (f : Nat → Nat) (s : Nat) : Nat → Nat
  | 0 => 0
  | n + 1 => sumX f s n ^^^ (if s.testBit n = true then f n else 0)
theorem sumX_xor (f : Nat → Nat) (s t : Nat) : ∀ n, sumX f (s ^^^ t) n = sumX f s n ^^^ sumX f t n
  | 0 => by simp [sumX]
  | n + 1 => by
    unfold sumX
    have e : ∀ a b x y : Nat, (a ^^^ x) ^^^ (b ^^^ y) = (a ^^^ b) ^^^ (x ^^^ y) := fun a b x y => by ac_rfl
    rw [sumX_xor f s t n, Nat.testBit_xor, e]
    cases s.testBit n <;> cases t.testBit n <;> simp
theorem sumX_zero (f : Nat → Nat) : ∀ n, sumX f 0 n = 0
  | 0 => rfl
  | n + 1 => by unfold sumX; rw [sumX_zero f n]; simp
theorem sumX_pow (f : Nat → Nat) (j : Nat) : ∀ n, sumX f (2 ^ j) n = if j < n then f j else 0
  | 0 => by simp [sumX]
  | n + 1 => by
    unfold sumX
    rw [sumX_pow f j n, Nat.testBit_two_pow]
    by_cases e : j = n
    · subst e; simp
    · by_cases h : j < n
      · simp [e, h, show j < n + 1 by omega]
      · simp [e, h, show ¬ j < n + 1 by omega]
theorem sumX_lt (f : Nat → Nat) (s m : Nat) : ∀ n, (∀ i, i < n → f i < 2 ^ m) → sumX f s n < 2 ^ m
  | 0, _ => Nat.two_pow_pos m
  | n + 1, h => by
    unfold sumX
    refine Nat.xor_lt_two_pow (sumX_lt f s m n fun i hi => h i (by omega)) ?_
    split
    · exact h n (by omega)
    · exact Nat.two_pow_pos m
theorem inSet_lt {n : Nat} {s : Int} (h : inSet n s = true) : 0 ≤ s ∧ s.toNat < 2 ^ n ∧ s = (s.toNat : Int) := by
  simp only [inSet, Bool.and_eq_true, decide_eq_true_eq] at h
  have hc : ((2 ^ n : Nat) : Int) = 2 ^ n := by simp
  exact ⟨h.1, by omega, by omega⟩
theorem isBtn_of {n : Nat} {i : Int} (h0 : 0 ≤ i) (h1 : i < n) : isBtn n i = true := by simp only [isBtn, Bool.and_eq_true, decide_eq_true_eq]; omega
end Go.Proofs.YtlohlngmagpepaaM
