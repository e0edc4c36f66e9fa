/- Plain laws on products with circles: a pair of sets as one set, and its steps. No program in sight. -/
import Derived.Test.YtlohlngmagpepaaGreatM6
namespace Go.Proofs.YtlohlngmagpepaaGreatM
open Go.RowKit Go.Proofs.YtlohlngmagpepaaGreatW.PrintWords Go.Proofs.YtlohlngmagpepaaGreatW.PrintLast Go.Proofs.YtlohlngmagpepaaGreatW.PrintMore
set_option linter.unusedVariables false
set_option linter.unusedSimpArgs false
/-- The set to which a map takes s: what stands from the i-th place on is added to o. -/
def ap (s : Nat) : Nat → Nat → List Nat → Nat
  | o, _, [] => o
  | o, i, x :: r => ap s (if s.testBit i = true then o ^^^ x else o) (i + 1) r
theorem ap_from (s : Nat) : ∀ (l : List Nat) (o i : Nat), ap s o i l = o ^^^ ap s 0 i l
  | [], o, i => by simp [ap]
  | x :: r, o, i => by
    unfold ap
    split
    · rw [ap_from s r (o ^^^ x), ap_from s r (0 ^^^ x), Nat.zero_xor, Nat.xor_assoc]
    · rw [ap_from s r o]
theorem ap_append (s : Nat) : ∀ (l r : List Nat) (o i : Nat), ap s o i (l ++ r) = ap s (ap s o i l) (i + l.length) r
  | [], r, o, i => by simp [ap]
  | x :: l, r, o, i => by
    rw [List.cons_append]
    unfold ap
    rw [ap_append s l r, List.length_cons, show i + 1 + l.length = i + (l.length + 1) by omega]
    cases r <;> rfl
theorem ap_lt {n s : Nat} : ∀ (l : List Nat) (o i : Nat), (∀ x ∈ l, x < 2 ^ n) → o < 2 ^ n → ap s o i l < 2 ^ n
  | [], o, i, _, h => h
  | x :: r, o, i, hl, h => by
    unfold ap
    split
    · exact ap_lt r _ _ (fun y hy => hl y (List.mem_cons_of_mem _ hy)) (Nat.xor_lt_two_pow h (hl x List.mem_cons_self))
    · exact ap_lt r _ _ (fun y hy => hl y (List.mem_cons_of_mem _ hy)) h
theorem ap_congr (s t : Nat) : ∀ (l : List Nat) (o i : Nat), (∀ j, i ≤ j → j < i + l.length → s.testBit j = t.testBit j) → ap s o i l = ap t o i l
  | [], o, i, _ => rfl
  | x :: r, o, i, h => by
    unfold ap
    rw [h i (Nat.le_refl _) (by rw [List.length_cons]; omega), ap_congr s t r _ _ (fun j h1 h2 => h j (by omega) (by rw [List.length_cons]; omega))]
/-- The elements of s from i on, d places. -/
def sel (s : Nat) : Nat → Nat → Nat
  | _, 0 => 0
  | i, d + 1 => (if s.testBit i = true then 2 ^ i else 0) ^^^ sel s (i + 1) d
theorem testBit_pow (i j : Nat) : (2 ^ i).testBit j = decide (i = j) := by rw [Nat.testBit_two_pow]
theorem sel_bit (s : Nat) : ∀ (d i j : Nat), (sel s i d).testBit j = (decide (i ≤ j ∧ j < i + d) && s.testBit j)
  | 0, i, j => by
    rw [show decide (i ≤ j ∧ j < i + 0) = false from decide_eq_false (by omega)]
    simp [sel]
  | d + 1, i, j => by
    unfold sel
    rw [Nat.testBit_xor, sel_bit s d (i + 1) j]
    by_cases e : i = j
    · subst e
      rw [show decide (i + 1 ≤ i ∧ i < i + 1 + d) = false from decide_eq_false (by omega), show decide (i ≤ i ∧ i < i + (d + 1)) = true from decide_eq_true (by omega)]
      split
      · next h => rw [testBit_pow, h]; simp
      · next h => simp at h; rw [h]; simp
    · have e2 : decide (i + 1 ≤ j ∧ j < i + 1 + d) = decide (i ≤ j ∧ j < i + (d + 1)) := by
        rw [Bool.eq_iff_iff, decide_eq_true_eq, decide_eq_true_eq]; omega
      rw [e2]
      split
      · rw [testBit_pow, decide_eq_false e]; simp
      · simp
theorem sel_all {s n : Nat} (h : s < 2 ^ n) : sel s 0 n = s := by
  apply Nat.eq_of_testBit_eq
  intro j
  rw [sel_bit]
  by_cases e : j < n
  · rw [decide_eq_true (by omega)]; rfl
  · rw [decide_eq_false (by omega), Nat.testBit_lt_two_pow (Nat.lt_of_lt_of_le h (Nat.pow_le_pow_right (by decide) (by omega)))]; rfl
theorem xor4 (a b c d : Nat) : (a ^^^ b) ^^^ (c ^^^ d) = (a ^^^ c) ^^^ (b ^^^ d) := by
  rw [Nat.xor_assoc, ← Nat.xor_assoc b c d, Nat.xor_comm b c, Nat.xor_assoc c b d, ← Nat.xor_assoc]
/-- A step's first half: the map, and a fellow in higher places. -/
def stepLow (n : Nat) : Nat → List Nat → List Nat
  | _, [] => []
  | i, x :: r => (x ||| 2 ^ (n + i)) :: stepLow n (i + 1) r
theorem stepLow_length (n : Nat) : ∀ (l : List Nat) (i : Nat), (stepLow n i l).length = l.length
  | [], _ => rfl
  | x :: r, i => by simp [stepLow, stepLow_length n r]
theorem or_high {x n j : Nat} (hx : x < 2 ^ n) (h : n ≤ j) : x ||| 2 ^ j = x ^^^ 2 ^ j := by
  apply Nat.eq_of_testBit_eq
  intro k
  rw [Nat.testBit_or, Nat.testBit_xor, testBit_pow]
  by_cases e : j = k
  · subst e
    rw [Nat.testBit_lt_two_pow (Nat.lt_of_lt_of_le hx (Nat.pow_le_pow_right (by decide) h))]
    simp
  · rw [decide_eq_false e]; simp
theorem or_shift {x y n : Nat} (hx : x < 2 ^ n) : x ||| y <<< n = x ^^^ y <<< n := by
  apply Nat.eq_of_testBit_eq
  intro k
  rw [Nat.testBit_or, Nat.testBit_xor, Nat.testBit_shiftLeft]
  by_cases e : n ≤ k
  · rw [Nat.testBit_lt_two_pow (Nat.lt_of_lt_of_le hx (Nat.pow_le_pow_right (by decide) e))]
    simp
  · rw [decide_eq_false e]; simp
theorem ap_stepLow (n s : Nat) : ∀ (l : List Nat) (o i : Nat), (∀ x ∈ l, x < 2 ^ n) → ap s o i (stepLow n i l) = ap s o i l ^^^ (sel s i l.length) <<< n
  | [], o, i, _ => by simp [ap, stepLow, sel]
  | x :: r, o, i, h => by
    have ih := fun o => ap_stepLow n s r o (i + 1) (fun y hy => h y (List.mem_cons_of_mem _ hy))
    unfold stepLow
    rw [List.length_cons]
    unfold ap sel
    rw [ih, or_high (h x List.mem_cons_self) (show n ≤ n + i by omega), Nat.shiftLeft_xor_distrib]
    split
    · rw [ap_from s r (o ^^^ (x ^^^ 2 ^ (n + i))), ap_from s r (o ^^^ x), show 2 ^ (n + i) = 2 ^ i <<< n by rw [Nat.shiftLeft_eq, ← Nat.pow_add, Nat.add_comm], ← Nat.xor_assoc, Nat.xor_assoc (o ^^^ x), Nat.xor_comm (2 ^ i <<< n), ← Nat.xor_assoc (o ^^^ x), Nat.xor_assoc]
    · rw [Nat.zero_shiftLeft, Nat.zero_xor]
/-- 2^i, 2^(i+1), .. -/
def pows : Nat → Nat → List Nat
  | _, 0 => []
  | i, d + 1 => 2 ^ i :: pows (i + 1) d
theorem pows_length : ∀ (d i : Nat), (pows i d).length = d
  | 0, _ => rfl
  | d + 1, i => by simp [pows, pows_length d]
theorem ap_pows (n s : Nat) : ∀ (d o i : Nat), ap s o (n + i) (pows i d) = o ^^^ sel (s >>> n) i d
  | 0, o, i => by simp [ap, pows, sel]
  | d + 1, o, i => by
    unfold pows ap sel
    rw [show n + i + 1 = n + (i + 1) by omega, ap_pows n s d, Nat.testBit_shiftRight]
    split
    · rw [Nat.xor_assoc]
    · rw [Nat.zero_xor]
def pack (n : Nat) (p : Nat × Nat) : Nat := p.1 ^^^ p.2 <<< n
theorem pack_lt {n : Nat} {p : Nat × Nat} (h1 : p.1 < 2 ^ n) (h2 : p.2 < 2 ^ n) : pack n p < 2 ^ (2 * n) := by
  unfold pack
  refine Nat.xor_lt_two_pow (Nat.lt_of_lt_of_le h1 (Nat.pow_le_pow_right (by decide) (by omega))) ?_
  rw [Nat.shiftLeft_eq, show 2 * n = n + n by omega, Nat.pow_add]
  exact Nat.mul_lt_mul_of_pos_right h2 (Nat.two_pow_pos n)
def cstep (n : Nat) (T : List Nat) : List Nat := stepLow n 0 T ++ pows 0 n
theorem cstep_length (n : Nat) (T : List Nat) : (cstep n T).length = T.length + n := by simp [cstep, stepLow_length, pows_length]
def cst (T : List Nat) (p : Nat × Nat) : Nat × Nat := (ap p.1 0 0 T ^^^ p.2, p.1)
theorem ap_cstep {n : Nat} {T : List Nat} (hn : T.length = n) (hT : ∀ x ∈ T, x < 2 ^ n) (p : Nat × Nat) (h1 : p.1 < 2 ^ n) (h2 : p.2 < 2 ^ n) : ap (pack n p) 0 0 (cstep n T) = pack n (cst T p) := by
  have hb : ∀ j, j < n → (pack n p).testBit j = p.1.testBit j := fun j hj => by
    unfold pack
    rw [Nat.testBit_xor, Nat.testBit_shiftLeft, decide_eq_false (by omega)]
    simp
  have hs : pack n p >>> n = p.2 := by
    apply Nat.eq_of_testBit_eq
    intro j
    unfold pack
    rw [Nat.testBit_shiftRight, Nat.testBit_xor, Nat.testBit_shiftLeft, decide_eq_true (by omega), Nat.testBit_lt_two_pow (Nat.lt_of_lt_of_le h1 (Nat.pow_le_pow_right (by decide) (by omega)))]
    simp
  have hsel : sel (pack n p) 0 n = p.1 := by
    rw [← sel_all h1]
    apply Nat.eq_of_testBit_eq
    intro j
    rw [sel_bit, sel_bit]
    by_cases e : j < n
    · rw [hb j e]
    · rw [decide_eq_false (by omega)]; rfl
  unfold cstep
  rw [ap_append, ap_stepLow n _ T 0 0 hT, stepLow_length, hn, hsel, ap_congr (pack n p) p.1 T 0 0 (fun j _ hj => hb j (by omega)), Nat.zero_add]
  have := ap_pows n (pack n p) n (ap p.1 0 0 T ^^^ p.1 <<< n) 0
  rw [Nat.add_zero] at this
  rw [this, hs, sel_all h2]
  unfold pack cst
  rw [Nat.xor_assoc, Nat.xor_comm (p.1 <<< n), ← Nat.xor_assoc]
theorem cst_lt {n : Nat} {T : List Nat} (hT : ∀ x ∈ T, x < 2 ^ n) {p : Nat × Nat} (h1 : p.1 < 2 ^ n) (h2 : p.2 < 2 ^ n) : (cst T p).1 < 2 ^ n ∧ (cst T p).2 < 2 ^ n :=
  ⟨Nat.xor_lt_two_pow (ap_lt T 0 0 hT (Nat.two_pow_pos n)) h2, h1⟩
def cit (T : List Nat) : Nat → Nat × Nat → Nat × Nat
  | 0, p => p
  | m + 1, p => cit T m (cst T p)
theorem cit_succ (T : List Nat) : ∀ (m : Nat) (p : Nat × Nat), cit T (m + 1) p = cst T (cit T m p)
  | 0, _ => rfl
  | m + 1, p => cit_succ T m (cst T p)
theorem cit_lt {n : Nat} {T : List Nat} (hT : ∀ x ∈ T, x < 2 ^ n) : ∀ (m : Nat) (p : Nat × Nat), p.1 < 2 ^ n → p.2 < 2 ^ n → (cit T m p).1 < 2 ^ n ∧ (cit T m p).2 < 2 ^ n
  | 0, _, h1, h2 => ⟨h1, h2⟩
  | m + 1, p, h1, h2 => cit_lt hT m _ (cst_lt hT h1 h2).1 (cst_lt hT h1 h2).2
def cfst (n i : Nat) : Nat × Nat := if i < n then (2 ^ i, 0) else (0, 2 ^ (i - n))
theorem cfst_lt {n i : Nat} (h : i < 2 * n) : (cfst n i).1 < 2 ^ n ∧ (cfst n i).2 < 2 ^ n := by
  unfold cfst
  split
  · next e => exact ⟨Nat.pow_lt_pow_right (by decide) e, Nat.two_pow_pos n⟩
  · exact ⟨Nat.two_pow_pos n, Nat.pow_lt_pow_right (by decide) (by omega)⟩
theorem pack_cfst {n i : Nat} (h : i < 2 * n) : pack n (cfst n i) = 2 ^ i := by
  unfold pack cfst
  split
  · simp
  · next e => rw [Nat.shiftLeft_eq, ← Nat.pow_add, Nat.zero_xor, show i - n + n = i by omega]
/-- What a circle of m leaves of the i-th of the sets of one element. -/
def cvec (n : Nat) (T : List Nat) (m i : Nat) : Nat := pack n (cit T m (cfst n i)) ^^^ 2 ^ i
theorem cvec_lt {n : Nat} {T : List Nat} (hT : ∀ x ∈ T, x < 2 ^ n) (m : Nat) {i : Nat} (h : i < 2 * n) : cvec n T m i < 2 ^ (2 * n) := by
  have h1 := cfst_lt h
  have h2 := cit_lt hT m (cfst n i) h1.1 h1.2
  exact Nat.xor_lt_two_pow (pack_lt h2.1 h2.2) (Nat.pow_lt_pow_right (by decide) h)
def circ (n : Nat) (T : List Nat) (m : Nat) : Int := nulMap ((List.range' 0 (2 * n)).map (cvec n T m))
theorem applyGo_ints (s : Nat) : ∀ (l : List Nat) (o i : Nat), applyGo (s : Int) (o : Int) i (ints l) = (ap s o i l : Int)
  | [], o, i => rfl
  | x :: r, o, i => by
    show applyGo (s : Int) (o : Int) i ((x : Int) :: ints r) = _
    unfold applyGo ap
    rw [show bit (s : Int) (i : Int) = s.testBit i from rfl]
    split
    · rw [show (((o : Int).toNat ^^^ (x : Int).toNat : Nat) : Int) = ((o ^^^ x : Nat) : Int) from rfl]
      exact applyGo_ints s r _ _
    · exact applyGo_ints s r _ _
theorem applyMap_ints (l : List Nat) (s : Nat) : applyMap (ints l) (s : Int) = (ap s 0 0 l : Int) := applyGo_ints s l 0 0
end Go.Proofs.YtlohlngmagpepaaGreatM
