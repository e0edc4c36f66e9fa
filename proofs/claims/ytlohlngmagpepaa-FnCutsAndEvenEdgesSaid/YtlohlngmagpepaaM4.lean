/- Plain laws on polynomials over two elements, told as whole numbers. No program in sight. -/
import Derived.Test.YtlohlngmagpepaaM1
namespace Go.Proofs.YtlohlngmagpepaaM
open Go.RowKit Go.Proofs.YtlohlngmagpepaaW.PrintWords Go.Proofs.YtlohlngmagpepaaW.PrintLast Go.Proofs.YtlohlngmagpepaaW.PrintMore
set_option linter.unusedVariables false
set_option linter.unusedSimpArgs false
def blen (x : Nat) : Nat := if x = 0 then 0 else blen (x / 2) + 1
termination_by x
decreasing_by omega
theorem blen_zero : blen 0 = 0 := by rw [blen]; rfl
theorem blen_pos {x : Nat} (h : x ≠ 0) : blen x = blen (x / 2) + 1 := by rw [blen, if_neg h]
theorem lt_blen : ∀ (k x : Nat), x < 2 ^ k ↔ blen x ≤ k
  | 0, x => by
    constructor
    · intro h
      have : x = 0 := by omega
      rw [this, blen_zero]
      omega
    · intro h
      by_cases e : x = 0
      · omega
      · rw [blen_pos e] at h
        omega
  | k + 1, x => by
    by_cases e : x = 0
    · subst e
      rw [blen_zero]
      exact ⟨fun _ => Nat.zero_le _, fun _ => Nat.two_pow_pos _⟩
    · rw [blen_pos e, Nat.pow_succ]
      have := lt_blen k (x / 2)
      omega
theorem blen_le {k x : Nat} (h : x < 2 ^ k) : blen x ≤ k := (lt_blen k x).1 h
theorem lt_of_blen {k x : Nat} (h : blen x ≤ k) : x < 2 ^ k := (lt_blen k x).2 h
theorem blen_top {x : Nat} {k : Nat} (h : blen x = k + 1) : x.testBit k = true := by
  have h1 : x < 2 ^ (k + 1) := lt_of_blen (by omega)
  have h2 : ¬ x < 2 ^ k := fun h3 => by have := blen_le h3; omega
  rw [Nat.testBit_eq_decide_div_mod_eq, decide_eq_true_eq]
  have : x / 2 ^ k = 1 := by
    apply Nat.div_eq_of_lt_le
    · omega
    · rw [Nat.pow_succ] at h1
      omega
  rw [this]
theorem blen_shift (k : Nat) : ∀ (x : Nat), x / 2 ^ k ≠ 0 → blen x = blen (x / 2 ^ k) + k := by
  induction k with
  | zero => intro x h; rw [Nat.pow_zero, Nat.div_one]; rfl
  | succ k ih =>
    intro x h
    have hx : x ≠ 0 := fun e => by subst e; simp at h
    rw [Nat.pow_succ, Nat.mul_comm, ← Nat.div_div_eq_div_mul] at h ⊢
    rw [blen_pos hx, ih (x / 2) h]
    omega
def pdeg (x : Nat) : Int := (blen x : Int) - 1
theorem low_top {p k : Nat} (hp : p < 2 ^ (k + 1)) (hb : p.testBit k = false) : p < 2 ^ k := by
  apply Nat.lt_of_not_le
  intro hge
  have hd : p / 2 ^ k = 1 := by
    apply Nat.div_eq_of_lt_le
    · omega
    · rw [Nat.pow_succ] at hp
      omega
  rw [Nat.testBit_eq_decide_div_mod_eq, hd] at hb
  exact absurd hb (by decide)
def blk : Nat → Nat → Nat
  | 0, _ => 0
  | k + 1, x => if x = 0 then 0 else blk k (x / 2) + 1
theorem blen_blk : ∀ (k x : Nat), x < 2 ^ k → blen x = blk k x
  | 0, x, h => by
    have : x = 0 := by omega
    rw [this, blen_zero]
    rfl
  | k + 1, x, h => by
    rw [Nat.pow_succ] at h
    unfold blk
    split
    · next e => rw [e, blen_zero]
    · next e => rw [blen_pos e, blen_blk k (x / 2) (by omega)]
end Go.Proofs.YtlohlngmagpepaaM
