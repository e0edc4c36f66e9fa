/- Plain laws on odd meetings: what can be solved meets all quiet sets evenly, and what cannot meets some oddly. No program in sight. -/
import Derived.Test.YtlohlngmagpepaaM23
import Derived.Test.YtlohlngmagpepaaM20
namespace Go.Proofs.YtlohlngmagpepaaM
open Go.RowKit Go.Proofs.YtlohlngmagpepaaW.PrintWords Go.Proofs.YtlohlngmagpepaaW.PrintLast Go.Proofs.YtlohlngmagpepaaW.PrintMore
set_option linter.unusedVariables false
set_option linter.unusedSimpArgs false
def oddm (a b : Nat) : Bool := decide (pop (a &&& b) % 2 = 1)
theorem oddm_comm (a b : Nat) : oddm a b = oddm b a := by unfold oddm; rw [Nat.and_comm]
theorem sum_xor (f g : Nat → Bool) : ∀ (d i : Nat), sumFrom (fun x => one (f x ^^ g x)) i d % 2 = (sumFrom (fun x => one (f x)) i d + sumFrom (fun x => one (g x)) i d) % 2
  | 0, i => rfl
  | d + 1, i => by
    have ih := sum_xor f g d (i + 1)
    simp only [sumFrom]
    have h : one (f i ^^ g i) % 2 = (one (f i) + one (g i)) % 2 := by cases f i <;> cases g i <;> decide
    omega
theorem pop_xor {n a b : Nat} (hn : n ≤ 63) (ha : a < 2 ^ n) (hb : b < 2 ^ n) : pop (a ^^^ b) % 2 = (pop a + pop b) % 2 := by
  rw [pop_sum hn ha, pop_sum hn hb, pop_sum hn (Nat.xor_lt_two_pow ha hb)]
  rw [← sum_xor]
  congr 1
  refine sumFrom_congr _ _ _ _ fun x _ _ => ?_
  rw [Nat.testBit_xor]
theorem and_low {a b n : Nat} (h : b < 2 ^ n) : a &&& b < 2 ^ n := Nat.lt_of_le_of_lt Nat.and_le_right h
theorem oddm_xor {n : Nat} (hn : n ≤ 63) (a b : Nat) {c : Nat} (hc : c < 2 ^ n) : oddm (a ^^^ b) c = (oddm a c ^^ oddm b c) := by
  unfold oddm
  rw [Nat.and_xor_distrib_right]
  have h := pop_xor hn (and_low (a := a) hc) (and_low (a := b) hc)
  rcases Nat.mod_two_eq_zero_or_one (pop (a &&& c)) with h1 | h1 <;> rcases Nat.mod_two_eq_zero_or_one (pop (b &&& c)) with h2 | h2 <;> simp [h, h1, h2, Nat.add_mod]
theorem oddm_zero (c : Nat) : oddm 0 c = false := by
  unfold oddm
  rw [Nat.zero_and, pop]
  rfl
theorem pop_one (i : Nat) : pop (2 ^ i) = 1 := by
  induction i with
  | zero => rw [pop, if_neg (by decide)]; show 1 % 2 + pop 0 = 1; rw [pop]; rfl
  | succ i ih =>
    rw [pop, if_neg (Nat.ne_of_gt (Nat.two_pow_pos _)), Nat.pow_succ, Nat.mul_mod_left, Nat.mul_div_cancel _ (by decide), ih]
theorem oddm_pow (i c : Nat) : oddm (2 ^ i) c = c.testBit i := by
  unfold oddm
  have e : 2 ^ i &&& c = if c.testBit i = true then 2 ^ i else 0 := by
    apply Nat.eq_of_testBit_eq
    intro j
    rw [Nat.testBit_and, Nat.testBit_two_pow]
    by_cases h : i = j
    · subst h
      split
      · next h => simp [h]
      · next h => simp at h; simp [h]
    · split <;> simp [h]
  rw [e]
  split
  · next h => rw [pop_one, h]; rfl
  · next h =>
    have : c.testBit i = false := by simpa using h
    rw [this, pop]
    rfl
structure SymF (f : Nat → Nat) (n : Nat) : Prop where
  lt : ∀ i, i < n → f i < 2 ^ n
  sym : ∀ i j, i < n → j < n → (f i).testBit j = (f j).testBit i
theorem sumX_par {f : Nat → Nat} {n : Nat} (h : SymF f n) (hn : n ≤ 63) (x : Nat) {i : Nat} (hi : i < n) : (sumX f x n).testBit i = oddm x (f i) := by
  rw [sumX_bit]
  unfold oddm
  rw [pop_sum hn (and_low (a := x) (h.lt i hi))]
  congr 3
  refine sumFrom_congr _ _ _ _ fun j _ hj => ?_
  rw [Nat.testBit_and, h.sym j i (by omega) hi]
end Go.Proofs.YtlohlngmagpepaaM
