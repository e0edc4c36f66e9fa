/- Plain laws: what the functions on splits return. No program in sight. -/
import Derived.Test.YtlohlngmagpepaaM40
namespace Go.Proofs.YtlohlngmagpepaaM
open Go.RowKit Go.Proofs.YtlohlngmagpepaaW.PrintWords Go.Proofs.YtlohlngmagpepaaW.PrintLast Go.Proofs.YtlohlngmagpepaaW.PrintMore
set_option linter.unusedVariables false
set_option linter.unusedSimpArgs false
def cntR (l : List Int) (r : Nat) : Int × Bool := if good l = true then (((2 ^ (svP l r).quiet.length : Nat) : Int), true) else (0, false)
def degP (l : List Int) (s : Nat) : Nat → List Nat
  | 0 => []
  | t + 1 => if s.testBit t = true then degP l s t ++ [pop (nb l t &&& s)] else degP l s t
def degR (l : List Int) (s : Int) : List Int × Bool := if boardOk l s = true then (ints (degP l s.toNat l.length), true) else ([], false)
theorem degP_len (l : List Int) (s : Nat) : ∀ t, (degP l s t).length ≤ t
  | 0 => Nat.le_refl _
  | t + 1 => by
    have ih := degP_len l s t
    rw [degP]
    split
    · rw [List.length_append, List.length_singleton]
      omega
    · omega
theorem degP_sum (l : List Int) (s : Nat) : ∀ t, (degP l s t).sum = sumFrom (fun x => if s.testBit x = true then meet l s x else 0) 0 t
  | 0 => rfl
  | t + 1 => by
    have ih := degP_sum l s t
    rw [sumFrom_last, ← ih, degP, Nat.zero_add]
    split
    · next h => rw [List.sum_append, List.sum_singleton]; rfl
    · rfl
theorem cnt_bad {l : List Int} (r : Nat) (h : good l = false) : cntR l r = (0, false) := by unfold cntR; rw [if_neg (by rw [h]; decide)]
theorem cnt_good {l : List Int} (r : Nat) (h : good l = true) : cntR l r = (((2 ^ (svP l r).quiet.length : Nat) : Int), true) := by unfold cntR; rw [if_pos h]
theorem andnot_nat (a b : Nat) (ha : a < 2 ^ 63) (hb : b < 2 ^ 63) : Go.bits .andNot .i64 (a : Int) (b : Int) = ((a ^^^ (a &&& b) : Nat) : Int) := by
  have ha' : a % 2 ^ IntKind.i64.bits = a := mod64 a ha
  have hb' : b % 2 ^ IntKind.i64.bits = b := mod64 b hb
  have e : a &&& (2 ^ IntKind.i64.bits - 1 - b) = a ^^^ (a &&& b) := by
    apply Nat.eq_of_testBit_eq
    intro i
    rw [Nat.testBit_and, Nat.testBit_xor, Nat.testBit_and, show 2 ^ IntKind.i64.bits - 1 - b = 2 ^ IntKind.i64.bits - (b + 1) by omega, Nat.testBit_two_pow_sub_succ (Nat.lt_trans hb (by decide))]
    by_cases hi : i < IntKind.i64.bits
    · rw [decide_eq_true hi, Bool.true_and]
      cases a.testBit i <;> cases b.testBit i <;> rfl
    · have h0 : a.testBit i = false := Nat.testBit_lt_two_pow (Nat.lt_of_lt_of_le ha (Nat.le_trans (by decide : 2 ^ 63 ≤ 2 ^ IntKind.i64.bits) (Nat.pow_le_pow_right (by decide) (by omega))))
      rw [h0]
      simp
  simp only [Go.bits, BitVec.ofInt_natCast, BitVec.toNat_and, BitVec.toNat_not, BitVec.toNat_ofNat, ha', hb', e]
  exact wraps_i64 _ (Int.natCast_nonneg _) (by exact_mod_cast Nat.xor_lt_two_pow ha (Nat.lt_of_le_of_lt Nat.and_le_left ha))
theorem andnot_others {l : List Int} (hG : GoodG l) {s : Nat} (hs : s < 2 ^ l.length) : Go.bits .andNot .i64 ((2 ^ l.length - 1 : Nat) : Int) (s : Int) = ((othersP l s : Nat) : Int) := by
  have h16 : (2 : Nat) ^ l.length ≤ 2 ^ 16 := Nat.pow_le_pow_right (by decide) hG.top
  have hp := Nat.two_pow_pos l.length
  rw [andnot_nat _ _ (by omega) (by omega)]
  congr 1
  unfold othersP
  apply Nat.eq_of_testBit_eq
  intro i
  rw [Nat.testBit_xor, Nat.testBit_and, Nat.testBit_xor, Nat.testBit_two_pow_sub_one]
  by_cases hi : i < l.length
  · rw [decide_eq_true hi]
    cases s.testBit i <;> rfl
  · rw [decide_eq_false hi, Nat.testBit_lt_two_pow (Nat.lt_of_lt_of_le hs (Nat.pow_le_pow_right (by decide) (by omega)))]
    rfl
end Go.Proofs.YtlohlngmagpepaaM
