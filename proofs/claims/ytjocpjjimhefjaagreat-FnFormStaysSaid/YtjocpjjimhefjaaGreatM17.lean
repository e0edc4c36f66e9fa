/- Plain laws on presses: what a word of buttons does, what a set of buttons does. No program in sight. -/
import Derived.Test.YtjocpjjimhefjaaGreatM2
namespace Go.Proofs.YtjocpjjimhefjaaGreatM
open Go.RowKit Go.Proofs.YtjocpjjimhefjaaGreatW.PrintWords Go.Proofs.YtjocpjjimhefjaaGreatW.PrintLast Go.Proofs.YtjocpjjimhefjaaGreatW.PrintMore
set_option linter.unusedVariables false
set_option linter.unusedSimpArgs false
theorem pow_cast (n : Nat) : ((2 ^ n : Nat) : Int) = (2 : Int) ^ n := by simp
theorem togg_bounds (l : List Int) (own : Bool) (hG : GoodG l) (i : Nat) (hi : i < l.length) : 0 ≤ togg l own i ∧ togg l own i < 2 ^ l.length := by
  have hx := hG.sets (rd l (i : Int)) (rd_mem l _ (by omega) (by omega))
  have hc : ((2 ^ l.length : Nat) : Int) = (2 : Int) ^ l.length := by simp
  unfold togg
  split
  · have h1 : (rd l (i : Int)).toNat < 2 ^ l.length := by omega
    have h2 : (rd l (i : Int)).toNat ||| 2 ^ i < 2 ^ l.length := Nat.or_lt_two_pow h1 (Nat.pow_lt_pow_right (by decide) hi)
    omega
  · exact hx
def effFrom (l : List Int) (own : Bool) (s : Int) : Nat → Nat → Nat → Nat
  | 0, _, o => o
  | d + 1, i, o => effFrom l own s d (i + 1) (if bit s (i : Int) = true then o ^^^ (togg l own i).toNat else o)
def sumX (f : Nat → Nat) (s : Nat) : Nat → Nat
  | 0 => 0
  | n + 1 => sumX f s n ^^^ (if s.testBit n = true then f n else 0)
theorem sumX_xor (f : Nat → Nat) (s t : Nat) : ∀ n, sumX f (s ^^^ t) n = sumX f s n ^^^ sumX f t n
  | 0 => by simp [sumX]
  | n + 1 => by
    unfold sumX
    have e : ∀ a b x y : Nat, (a ^^^ x) ^^^ (b ^^^ y) = (a ^^^ b) ^^^ (x ^^^ y) := fun a b x y => by ac_rfl
    rw [sumX_xor f s t n, Nat.testBit_xor, e]
    cases s.testBit n <;> cases t.testBit n <;> simp
theorem sumX_pow (f : Nat → Nat) (j : Nat) : ∀ n, sumX f (2 ^ j) n = if j < n then f j else 0
  | 0 => by simp [sumX]
  | n + 1 => by
    unfold sumX
    rw [sumX_pow f j n, Nat.testBit_two_pow]
    by_cases e : j = n
    · subst e; simp
    · by_cases h : j < n
      · simp [e, h, show j < n + 1 by omega]
      · simp [e, h, show ¬ j < n + 1 by omega]
theorem sumX_lt (f : Nat → Nat) (s m : Nat) : ∀ n, (∀ i, i < n → f i < 2 ^ m) → sumX f s n < 2 ^ m
  | 0, _ => Nat.two_pow_pos m
  | n + 1, h => by
    unfold sumX
    refine Nat.xor_lt_two_pow (sumX_lt f s m n fun i hi => h i (by omega)) ?_
    split
    · exact h n (by omega)
    · exact Nat.two_pow_pos m
def eff (l : List Int) (own : Bool) (s : Nat) : Nat := sumX (fun i => (togg l own i).toNat) s l.length
theorem effFrom_go (l : List Int) (own : Bool) (s : Int) : ∀ (d i : Nat), effFrom l own s d i (sumX (fun i => (togg l own i).toNat) s.toNat i) = sumX (fun i => (togg l own i).toNat) s.toNat (i + d)
  | 0, i => rfl
  | d + 1, i => by
    rw [effFrom, show i + (d + 1) = (i + 1) + d by omega, ← effFrom_go l own s d (i + 1)]
    congr 1
    rw [sumX]
    unfold bit
    simp only [Int.toNat_natCast]
    split <;> simp
theorem effFrom_eff (l : List Int) (own : Bool) (s : Int) : effFrom l own s l.length 0 0 = eff l own s.toNat := by
  have h := effFrom_go l own s l.length 0
  rw [Nat.zero_add] at h
  exact h
theorem eff_xor (l : List Int) (own : Bool) (s t : Nat) : eff l own (s ^^^ t) = eff l own s ^^^ eff l own t := sumX_xor _ s t _
theorem eff_lt (l : List Int) (own : Bool) (hG : GoodG l) (s : Nat) : eff l own s < 2 ^ l.length := sumX_lt _ s _ _ fun i hi => by
  have h := togg_bounds l own hG i hi
  have hc : ((2 ^ l.length : Nat) : Int) = 2 ^ l.length := by simp
  omega
theorem eff_pow (l : List Int) (own : Bool) (j : Nat) (hj : j < l.length) : eff l own (2 ^ j) = (togg l own j).toNat := by unfold eff; rw [sumX_pow, if_pos hj]
def xorI (a b : Int) : Int := ((a.toNat ^^^ b.toNat : Nat) : Int)
def pressAll (l : List Int) (own : Bool) (s p : Int) : Int × Bool := if (good l && inSet l.length s) = true then (if inSet l.length p = true then (xorI s (eff l own p.toNat), true) else (0, false)) else (0, false)
theorem inSet_lt {n : Nat} {s : Int} (h : inSet n s = true) : 0 ≤ s ∧ s.toNat < 2 ^ n ∧ s = (s.toNat : Int) := by
  simp only [inSet, Bool.and_eq_true, decide_eq_true_eq] at h
  have hc : ((2 ^ n : Nat) : Int) = 2 ^ n := by simp
  exact ⟨h.1, by omega, by omega⟩
theorem inSet_of {n s : Nat} (h : s < 2 ^ n) : inSet n (s : Int) = true := by
  have hc : ((2 ^ n : Nat) : Int) = 2 ^ n := by simp
  simp only [inSet, Bool.and_eq_true, decide_eq_true_eq]
  omega
theorem isBtn_of {n : Nat} {i : Int} (h0 : 0 ≤ i) (h1 : i < n) : isBtn n i = true := by simp only [isBtn, Bool.and_eq_true, decide_eq_true_eq]; omega
end Go.Proofs.YtjocpjjimhefjaaGreatM
