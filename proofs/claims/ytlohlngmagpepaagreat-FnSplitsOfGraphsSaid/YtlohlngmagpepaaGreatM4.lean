/- Plain laws on polynomials over two elements, told as whole numbers. No program in sight. -/
import Derived.Test.YtlohlngmagpepaaGreatM1
namespace Go.Proofs.YtlohlngmagpepaaGreatM
open Go.RowKit Go.Proofs.YtlohlngmagpepaaGreatW.PrintWords Go.Proofs.YtlohlngmagpepaaGreatW.PrintLast Go.Proofs.YtlohlngmagpepaaGreatW.PrintMore
set_option linter.unusedVariables false
set_option linter.unusedSimpArgs false
/-- How many places a number has. -/
def blen (x : Nat) : Nat := if x = 0 then 0 else blen (x / 2) + 1
termination_by x
decreasing_by omega
theorem blen_zero : blen 0 = 0 := by rw [blen]; rfl
theorem blen_pos {x : Nat} (h : x ≠ 0) : blen x = blen (x / 2) + 1 := by rw [blen, if_neg h]
theorem lt_blen : ∀ (k x : Nat), x < 2 ^ k ↔ blen x ≤ k
  | 0, x => by
    constructor
    · intro h
      have : x = 0 := by omega
      rw [this, blen_zero]
      omega
    · intro h
      by_cases e : x = 0
      · omega
      · rw [blen_pos e] at h
        omega
  | k + 1, x => by
    by_cases e : x = 0
    · subst e
      rw [blen_zero]
      exact ⟨fun _ => Nat.zero_le _, fun _ => Nat.two_pow_pos _⟩
    · rw [blen_pos e, Nat.pow_succ]
      have := lt_blen k (x / 2)
      omega
theorem blen_le {k x : Nat} (h : x < 2 ^ k) : blen x ≤ k := (lt_blen k x).1 h
theorem lt_of_blen {k x : Nat} (h : blen x ≤ k) : x < 2 ^ k := (lt_blen k x).2 h
theorem blen_top {x : Nat} {k : Nat} (h : blen x = k + 1) : x.testBit k = true := by
  have h1 : x < 2 ^ (k + 1) := lt_of_blen (by omega)
  have h2 : ¬ x < 2 ^ k := fun h3 => by have := blen_le h3; omega
  rw [Nat.testBit_eq_decide_div_mod_eq, decide_eq_true_eq]
  have : x / 2 ^ k = 1 := by
    apply Nat.div_eq_of_lt_le
    · omega
    · rw [Nat.pow_succ] at h1
      omega
  rw [this]
theorem blen_shift (k : Nat) : ∀ (x : Nat), x / 2 ^ k ≠ 0 → blen x = blen (x / 2 ^ k) + k := by
  induction k with
  | zero => intro x h; rw [Nat.pow_zero, Nat.div_one]; rfl
  | succ k ih =>
    intro x h
    have hx : x ≠ 0 := fun e => by subst e; simp at h
    rw [Nat.pow_succ, Nat.mul_comm, ← Nat.div_div_eq_div_mul] at h ⊢
    rw [blen_pos hx, ih (x / 2) h]
    omega
/-- Degrees: one less than how many places there are. -/
def pdeg (x : Nat) : Int := (blen x : Int) - 1
/-- Division: from the place k - 1 + dq down. -/
def pdivm (q dq : Nat) : Nat → Nat → Nat → Nat × Nat
  | 0, o, p => (o, p)
  | k + 1, o, p => if p.testBit (k + dq) = true then pdivm q dq k (o ||| 2 ^ k) (p ^^^ (q * 2 ^ k)) else pdivm q dq k o p
def pdiv (p q : Nat) : Nat × Nat := pdivm q (blen q - 1) (blen p + 1 - blen q) 0 p
theorem shift_lt {q d k : Nat} (h : q < 2 ^ d) : q * 2 ^ k < 2 ^ (d + k) := by
  rw [Nat.pow_add]
  exact Nat.mul_lt_mul_of_pos_right h (Nat.two_pow_pos k)
theorem shift_bit (q k i : Nat) : (q * 2 ^ k).testBit (k + i) = q.testBit i := by
  rw [Nat.mul_comm, Nat.testBit_two_pow_mul]
  simp
/-- A bit at the top goes. -/
theorem drop_top {p q k dq : Nat} (hp : p < 2 ^ (k + dq + 1)) (hq : blen q = dq + 1) (hb : p.testBit (k + dq) = true) : p ^^^ (q * 2 ^ k) < 2 ^ (k + dq) := by
  have hq1 : q < 2 ^ (dq + 1) := lt_of_blen (by omega)
  have hs : q * 2 ^ k < 2 ^ (k + dq + 1) := by
    have := shift_lt (k := k) hq1
    rwa [show dq + 1 + k = k + dq + 1 by omega] at this
  have hx : p ^^^ (q * 2 ^ k) < 2 ^ (k + dq + 1) := Nat.xor_lt_two_pow hp hs
  apply Nat.lt_of_not_le
  intro hge
  have hd : (p ^^^ (q * 2 ^ k)) / 2 ^ (k + dq) = 1 := by
    apply Nat.div_eq_of_lt_le
    · omega
    · rw [Nat.pow_succ] at hx
      omega
  have hbit : (p ^^^ (q * 2 ^ k)).testBit (k + dq) = true := by
    rw [Nat.testBit_eq_decide_div_mod_eq, decide_eq_true_eq, hd]
  rw [Nat.testBit_xor, hb, shift_bit, blen_top hq] at hbit
  exact absurd hbit (by decide)
theorem low_top {p k : Nat} (hp : p < 2 ^ (k + 1)) (hb : p.testBit k = false) : p < 2 ^ k := by
  apply Nat.lt_of_not_le
  intro hge
  have hd : p / 2 ^ k = 1 := by
    apply Nat.div_eq_of_lt_le
    · omega
    · rw [Nat.pow_succ] at hp
      omega
  rw [Nat.testBit_eq_decide_div_mod_eq, hd] at hb
  exact absurd hb (by decide)
theorem pdivm_rest_lt (q dq : Nat) (hq : blen q = dq + 1) : ∀ (k o p : Nat), p < 2 ^ (k + dq) → (pdivm q dq k o p).2 < 2 ^ dq
  | 0, o, p, h => by simpa [pdivm] using h
  | k + 1, o, p, h => by
    rw [show k + 1 + dq = k + dq + 1 by omega] at h
    unfold pdivm
    cases e : p.testBit (k + dq)
    · rw [if_neg (by decide)]
      exact pdivm_rest_lt q dq hq k o p (low_top h e)
    · rw [if_pos rfl]
      exact pdivm_rest_lt q dq hq k _ _ (drop_top h hq e)
theorem pdiv_rest_lt {p q : Nat} (hq : q ≠ 0) : (pdiv p q).2 < 2 ^ (blen q - 1) := by
  have h1 : blen q = (blen q - 1) + 1 := by have := blen_pos hq; omega
  refine pdivm_rest_lt q (blen q - 1) h1 _ 0 p ?_
  exact lt_of_blen (by omega)
theorem pdiv_rest_blen {p q : Nat} (hq : q ≠ 0) : blen (pdiv p q).2 < blen q := by
  have h := blen_le (pdiv_rest_lt (p := p) hq)
  have := blen_pos hq
  omega
/-- The greatest common divisor. -/
def pgcd (p q : Nat) : Nat := if h : q = 0 then p else pgcd q (pdiv p q).2
termination_by blen q
decreasing_by exact pdiv_rest_blen h
theorem pgcd_zero (p : Nat) : pgcd p 0 = p := by rw [pgcd, dif_pos rfl]
theorem pgcd_step {p q : Nat} (h : q ≠ 0) : pgcd p q = pgcd q (pdiv p q).2 := by rw [pgcd, dif_neg h]
/-- Fibonacci's polynomials. -/
def fibp : Nat → Nat
  | 0 => 0
  | 1 => 1
  | n + 2 => (fibp (n + 1) * 2) ^^^ fibp n
theorem fibp_lt : ∀ n : Nat, fibp n < 2 ^ n
  | 0 => by decide
  | 1 => by decide
  | n + 2 => by
    have h1 := fibp_lt (n + 1)
    have h2 := fibp_lt n
    rw [fibp]
    apply Nat.xor_lt_two_pow
    · rw [Nat.pow_succ]
      omega
    · rw [Nat.pow_add]
      omega
/-- x + 1 for x: from place k - 1 down. -/
def pshiftm (p : Nat) : Nat → Nat → Nat
  | 0, o => o
  | k + 1, o => pshiftm p k ((o ^^^ (o * 2)) ^^^ (if p.testBit k = true then 1 else 0))
def pshift (p : Nat) : Nat := pshiftm p (blen p) 0
theorem shiftstep_lt {o d : Nat} (h : o < 2 ^ d) (b : Bool) : (o ^^^ (o * 2)) ^^^ (if b = true then 1 else 0) < 2 ^ (d + 1) := by
  have h1 : o * 2 < 2 ^ (d + 1) := by rw [Nat.pow_succ]; omega
  have h2 : o < 2 ^ (d + 1) := by rw [Nat.pow_succ]; omega
  have h3 : (if b = true then 1 else 0) < 2 ^ (d + 1) := by
    have := Nat.two_pow_pos d
    rw [Nat.pow_succ]
    split <;> omega
  exact Nat.xor_lt_two_pow (Nat.xor_lt_two_pow h2 h1) h3
theorem pshiftm_lt (p : Nat) : ∀ (k d o : Nat), o < 2 ^ d → pshiftm p k o < 2 ^ (d + k)
  | 0, d, o, h => h
  | k + 1, d, o, h => by
    unfold pshiftm
    have := pshiftm_lt p k (d + 1) _ (shiftstep_lt h (p.testBit k))
    rwa [show d + 1 + k = d + (k + 1) by omega] at this
theorem pshift_lt (p : Nat) : pshift p < 2 ^ blen p := by
  have := pshiftm_lt p (blen p) 0 0 (by decide)
  rwa [Nat.zero_add] at this
/-- The same with a number of rounds. -/
def blk : Nat → Nat → Nat
  | 0, _ => 0
  | k + 1, x => if x = 0 then 0 else blk k (x / 2) + 1
theorem blen_blk : ∀ (k x : Nat), x < 2 ^ k → blen x = blk k x
  | 0, x, h => by
    have : x = 0 := by omega
    rw [this, blen_zero]
    rfl
  | k + 1, x, h => by
    rw [Nat.pow_succ] at h
    unfold blk
    split
    · next e => rw [e, blen_zero]
    · next e => rw [blen_pos e, blen_blk k (x / 2) (by omega)]
theorem pgcd_lt : ∀ (b p q k : Nat), blen q = b → p < 2 ^ k → q < 2 ^ k → pgcd p q < 2 ^ k := by
  intro b
  induction b using Nat.strongRecOn with
  | _ b ih =>
    intro p q k hb hp hq
    by_cases e : q = 0
    · subst e
      rw [pgcd_zero]
      exact hp
    · have hr := pdiv_rest_blen (p := p) e
      have hr2 : (pdiv p q).2 < 2 ^ k := Nat.lt_of_lt_of_le (pdiv_rest_lt (p := p) e) (Nat.pow_le_pow_right (by decide) (by have := blen_le hq; omega))
      rw [pgcd_step e]
      exact ih (blen (pdiv p q).2) (by omega) q (pdiv p q).2 k rfl hq hr2
/-- Nullities of grids. -/
def gridNul (a b : Nat) (own : Bool) : Int := pdeg (pgcd (fibp (b + 1)) (if own = true then pshift (fibp (a + 1)) else fibp (a + 1)))
/-- Is a number a side? -/
def isSide (a : Int) : Bool := decide (1 ≤ a) && decide (a ≤ 40)
def gridNullity (a b : Int) (own : Bool) : Int × Bool := if (isSide a && isSide b) = true then (gridNul a.toNat b.toNat own, true) else (0, false)
def gridTable (a : Int) (own : Bool) : List Int × Bool := if isSide a = true then ((List.range' 1 a.toNat).map fun i => gridNul i a.toNat own, true) else ([], false)
theorem fibp_lt41 {n : Nat} (h : n ≤ 40) : fibp (n + 1) < 2 ^ 41 := Nat.lt_of_lt_of_le (fibp_lt (n + 1)) (Nat.pow_le_pow_right (by decide) (by omega))
theorem pshift_lt41 {n : Nat} (h : n < 2 ^ 41) : pshift n < 2 ^ 41 := Nat.lt_of_lt_of_le (pshift_lt n) (Nat.pow_le_pow_right (by decide) (blen_le h))
end Go.Proofs.YtlohlngmagpepaaGreatM
