/- Plain laws on reflections: they undo themselves, keep the form, and are lit presses of what a set toggles. No program in sight. -/
import Derived.Test.YtlohlngmagpepaaM12
import Derived.Test.YtlohlngmagpepaaM15
namespace Go.Proofs.YtlohlngmagpepaaM
open Go.RowKit Go.Proofs.YtlohlngmagpepaaW.PrintWords Go.Proofs.YtlohlngmagpepaaW.PrintLast Go.Proofs.YtlohlngmagpepaaW.PrintMore
set_option linter.unusedVariables false
set_option linter.unusedSimpArgs false
theorem sumFrom_last (f : Nat → Nat) : ∀ (d a : Nat), sumFrom f a (d + 1) = sumFrom f a d + f (a + d)
  | 0, a => by simp [sumFrom]
  | d + 1, a => by
    have := sumFrom_last f d (a + 1)
    rw [sumFrom, this, sumFrom, show a + 1 + d = a + (d + 1) by omega]
    omega
def nb (l : List Int) (i : Nat) : Nat := (rd l (i : Int)).toNat
theorem nb_lt {l : List Int} (hG : GoodG l) {i : Nat} (hi : i < l.length) : nb l i < 2 ^ l.length := by
  have hx := hG.sets (rd l (i : Int)) (rd_mem l _ (by omega) (by omega))
  have hc := pow_cast l.length
  unfold nb
  omega
theorem nb_irr {l : List Int} (hG : GoodG l) {i : Nat} (hi : i < l.length) : (nb l i).testBit i = false := by
  have h := hG.irr i hi
  rw [← rd_getD] at h
  unfold bit at h
  rw [Int.toNat_natCast] at h
  exact h
theorem nb_sym {l : List Int} (hG : GoodG l) {i j : Nat} (hi : i < l.length) (hj : j < l.length) : (nb l i).testBit j = (nb l j).testBit i := by
  have h := hG.sym i j hi hj
  rw [← rd_getD, ← rd_getD] at h
  unfold bit at h
  rw [Int.toNat_natCast, Int.toNat_natCast] at h
  exact h
def meet (l : List Int) (s i : Nat) : Nat := pop (nb l i &&& s)
theorem sumX_bit (f : Nat → Nat) (s i : Nat) : ∀ n, (sumX f s n).testBit i = decide (sumFrom (fun x => one (s.testBit x && (f x).testBit i)) 0 n % 2 = 1)
  | 0 => by simp [sumX, sumFrom]
  | n + 1 => by
    rw [sumX, sumFrom_last, Nat.testBit_xor, sumX_bit f s i n, Nat.zero_add]
    generalize sumFrom (fun x => one (s.testBit x && (f x).testBit i)) 0 n = m
    cases e : s.testBit n
    · simp [one]
    · cases e2 : (f n).testBit i
      · simp [one, e2]
      · rcases Nat.mod_two_eq_zero_or_one m with h | h <;> simp [one, e2, h, Nat.add_mod]
end Go.Proofs.YtlohlngmagpepaaM
