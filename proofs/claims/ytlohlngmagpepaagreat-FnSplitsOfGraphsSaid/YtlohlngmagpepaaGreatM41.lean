/- Plain laws: what the functions on splits return. No program in sight. -/
import Derived.Test.YtlohlngmagpepaaGreatM40
namespace Go.Proofs.YtlohlngmagpepaaGreatM
open Go.RowKit Go.Proofs.YtlohlngmagpepaaGreatW.PrintWords Go.Proofs.YtlohlngmagpepaaGreatW.PrintLast Go.Proofs.YtlohlngmagpepaaGreatW.PrintMore
set_option linter.unusedVariables false
set_option linter.unusedSimpArgs false
/-- What EvenSplit and EvenOddSplit return. -/
def splitR (l : List Int) (r : Nat) : Int × Bool := if good l = true then ((spP l r : Int), true) else (0, false)
/-- What CountEvenSplits and CountEvenOdd return. -/
def cntR (l : List Int) (r : Nat) : Int × Bool := if good l = true then (((2 ^ (svP l r).quiet.length : Nat) : Int), true) else (0, false)
/-- What EvenSplits returns. -/
def evensR (l : List Int) : List Int × Bool := if good l = true ∧ 2 ^ (svP l 0).quiet.length ≤ 300 then (ints (solsP l), true) else ([], false)
/-- What IsEvenSet and IsOddSet return. -/
def isParR (l : List Int) (s : Int) (r : Nat) : Bool × Bool := if boardOk l s = true then (evenP l s.toNat r, true) else (false, false)
/-- Inner degrees of a set's first buttons. -/
def degP (l : List Int) (s : Nat) : Nat → List Nat
  | 0 => []
  | t + 1 => if s.testBit t = true then degP l s t ++ [pop (nb l t &&& s)] else degP l s t
/-- What DegreesWithin returns. -/
def degR (l : List Int) (s : Int) : List Int × Bool := if boardOk l s = true then (ints (degP l s.toNat l.length), true) else ([], false)
theorem degP_len (l : List Int) (s : Nat) : ∀ t, (degP l s t).length ≤ t
  | 0 => Nat.le_refl _
  | t + 1 => by
    have ih := degP_len l s t
    rw [degP]
    split
    · rw [List.length_append, List.length_singleton]
      omega
    · omega
theorem degP_le (l : List Int) (s : Nat) {n : Nat} (hn : n ≤ 63) (hs : s < 2 ^ n) : ∀ t, ∀ x ∈ degP l s t, x ≤ n
  | 0, x, h => by cases h
  | t + 1, x, h => by
    rw [degP] at h
    split at h
    · rcases List.mem_append.1 h with h | h
      · exact degP_le l s hn hs t x h
      · rw [List.mem_singleton.1 h]
        exact pop_le hn (and_low hs)
    · exact degP_le l s hn hs t x h
theorem degP_sum (l : List Int) (s : Nat) : ∀ t, (degP l s t).sum = sumFrom (fun x => if s.testBit x = true then meet l s x else 0) 0 t
  | 0 => rfl
  | t + 1 => by
    have ih := degP_sum l s t
    rw [sumFrom_last, ← ih, degP, Nat.zero_add]
    split
    · next h => rw [List.sum_append, List.sum_singleton]; rfl
    · rfl
/-- Inner degrees add up to an even number. -/
theorem deg_even {l : List Int} (hG : GoodG l) {s : Nat} (hs : s < 2 ^ l.length) : (degP l s l.length).sum % 2 = 0 := by
  have hc := pow_cast l.length
  have h1 := meets_twice l hG (s : Int) (by omega) (by omega)
  rw [meets_nat] at h1
  rw [degP_sum, h1]
  omega
theorem deg_small {l : List Int} (hG : GoodG l) {s : Nat} (hs : s < 2 ^ l.length) : (degP l s l.length).sum ≤ 256 := by
  have h16 := hG.top
  have key : ∀ (m : Nat) (x : List Nat), (∀ y ∈ x, y ≤ m) → x.sum ≤ x.length * m := by
    intro m x
    induction x with
    | nil => intro _; simp
    | cons y x ih =>
      intro h
      have h1 := h y List.mem_cons_self
      have h2 := ih fun z hz => h z (List.mem_cons_of_mem _ hz)
      rw [List.sum_cons, List.length_cons, Nat.succ_mul]
      omega
  have h1 := key l.length _ (degP_le l s (by omega) hs l.length)
  have h2 := degP_len l s l.length
  have h3 : (degP l s l.length).length * l.length ≤ 16 * 16 := Nat.mul_le_mul (by omega) h16
  omega
theorem split_bad {l : List Int} (r : Nat) (h : good l = false) : splitR l r = (0, false) := by unfold splitR; rw [if_neg (by rw [h]; decide)]
theorem split_good {l : List Int} (r : Nat) (h : good l = true) : splitR l r = ((spP l r : Int), true) := by unfold splitR; rw [if_pos h]
theorem cnt_bad {l : List Int} (r : Nat) (h : good l = false) : cntR l r = (0, false) := by unfold cntR; rw [if_neg (by rw [h]; decide)]
theorem cnt_good {l : List Int} (r : Nat) (h : good l = true) : cntR l r = (((2 ^ (svP l r).quiet.length : Nat) : Int), true) := by unfold cntR; rw [if_pos h]
theorem board_nat {l : List Int} (hG : GoodG l) {s : Nat} (hs : s < 2 ^ l.length) : boardOk l (s : Int) = true := by
  unfold boardOk
  have hc := pow_cast l.length
  rw [(good_iff l).2 hG]
  simp [inSet]
  omega
theorem isPar_good {l : List Int} (hG : GoodG l) {s : Nat} (hs : s < 2 ^ l.length) (r : Nat) : isParR l (s : Int) r = (evenP l s r, true) := by
  unfold isParR
  rw [if_pos (board_nat hG hs), Int.toNat_natCast]
/-- The least split is one. -/
theorem sp_even {l : List Int} (hG : GoodG l) {r : Nat} (hr : r < 2) : evenP l (spP l r) 0 = true ∧ evenP l (othersP l (spP l r)) r = true := by
  obtain ⟨h1, h2, _⟩ := spP_least hG r
  exact (split_iff hG h1 hr).1 h2
theorem pow_and_pred (q : Nat) : (2 ^ q) &&& (2 ^ q - 1) = 0 := Nat.eq_of_testBit_eq fun j => by
  rw [Nat.testBit_and, Nat.testBit_two_pow, Nat.testBit_two_pow_sub_one, Nat.zero_testBit]
  by_cases h : q = j
  · subst h
    simp
  · rw [decide_eq_false h, Bool.false_and]
theorem andnot_nat (a b : Nat) (ha : a < 2 ^ 63) (hb : b < 2 ^ 63) : Go.bits .andNot .i64 (a : Int) (b : Int) = ((a ^^^ (a &&& b) : Nat) : Int) := by
  have ha' : a % 2 ^ IntKind.i64.bits = a := mod64 a ha
  have hb' : b % 2 ^ IntKind.i64.bits = b := mod64 b hb
  have e : a &&& (2 ^ IntKind.i64.bits - 1 - b) = a ^^^ (a &&& b) := by
    apply Nat.eq_of_testBit_eq
    intro i
    rw [Nat.testBit_and, Nat.testBit_xor, Nat.testBit_and, show 2 ^ IntKind.i64.bits - 1 - b = 2 ^ IntKind.i64.bits - (b + 1) by omega, Nat.testBit_two_pow_sub_succ (Nat.lt_trans hb (by decide))]
    by_cases hi : i < IntKind.i64.bits
    · rw [decide_eq_true hi, Bool.true_and]
      cases a.testBit i <;> cases b.testBit i <;> rfl
    · have h0 : a.testBit i = false := Nat.testBit_lt_two_pow (Nat.lt_of_lt_of_le ha (Nat.le_trans (by decide : 2 ^ 63 ≤ 2 ^ IntKind.i64.bits) (Nat.pow_le_pow_right (by decide) (by omega))))
      rw [h0]
      simp
  simp only [Go.bits, BitVec.ofInt_natCast, BitVec.toNat_and, BitVec.toNat_not, BitVec.toNat_ofNat, ha', hb', e]
  exact wraps_i64 _ (Int.natCast_nonneg _) (by exact_mod_cast Nat.xor_lt_two_pow ha (Nat.lt_of_le_of_lt Nat.and_le_left ha))
/-- All without a set: the others. -/
theorem andnot_others {l : List Int} (hG : GoodG l) {s : Nat} (hs : s < 2 ^ l.length) : Go.bits .andNot .i64 ((2 ^ l.length - 1 : Nat) : Int) (s : Int) = ((othersP l s : Nat) : Int) := by
  have h16 : (2 : Nat) ^ l.length ≤ 2 ^ 16 := Nat.pow_le_pow_right (by decide) hG.top
  have hp := Nat.two_pow_pos l.length
  rw [andnot_nat _ _ (by omega) (by omega)]
  congr 1
  unfold othersP
  apply Nat.eq_of_testBit_eq
  intro i
  rw [Nat.testBit_xor, Nat.testBit_and, Nat.testBit_xor, Nat.testBit_two_pow_sub_one]
  by_cases hi : i < l.length
  · rw [decide_eq_true hi]
    cases s.testBit i <;> rfl
  · rw [decide_eq_false hi, Nat.testBit_lt_two_pow (Nat.lt_of_lt_of_le hs (Nat.pow_le_pow_right (by decide) (by omega)))]
    rfl
theorem sols_snoc (l : List Int) (s : Nat) : (List.range (s + 1)).filter (fun x => evenP l x 0 && evenP l (othersP l x) 0) = (List.range s).filter (fun x => evenP l x 0 && evenP l (othersP l x) 0) ++ (if (evenP l s 0 && evenP l (othersP l s) 0) = true then [s] else []) := by
  rw [List.range_succ, List.filter_append]
  congr 1
  rw [List.filter_cons, List.filter_nil]
theorem evens_bad {l : List Int} (h : good l = false) : evensR l = ([], false) := by unfold evensR; rw [if_neg (fun e => by rw [h] at e; cases e.1)]
theorem evens_many {l : List Int} (h : ¬ 2 ^ (svP l 0).quiet.length ≤ 300) : evensR l = ([], false) := by unfold evensR; rw [if_neg (fun e => h e.2)]
theorem evens_good {l : List Int} (h : good l = true) (h2 : 2 ^ (svP l 0).quiet.length ≤ 300) : evensR l = (ints (solsP l), true) := by unfold evensR; rw [if_pos ⟨h, h2⟩]
end Go.Proofs.YtlohlngmagpepaaGreatM
