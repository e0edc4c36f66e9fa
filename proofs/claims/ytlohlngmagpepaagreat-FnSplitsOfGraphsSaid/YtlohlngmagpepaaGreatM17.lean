/- Plain laws on presses: what a word of buttons does, what a set of buttons does. No program in sight. -/
import Derived.Test.YtlohlngmagpepaaGreatM2
namespace Go.Proofs.YtlohlngmagpepaaGreatM
open Go.RowKit Go.Proofs.YtlohlngmagpepaaGreatW.PrintWords Go.Proofs.YtlohlngmagpepaaGreatW.PrintLast Go.Proofs.YtlohlngmagpepaaGreatW.PrintMore
set_option linter.unusedVariables false
set_option linter.unusedSimpArgs false
theorem pow_cast (n : Nat) : ((2 ^ n : Nat) : Int) = (2 : Int) ^ n := by simp
theorem togg_bounds (l : List Int) (own : Bool) (hG : GoodG l) (i : Nat) (hi : i < l.length) : 0 ≤ togg l own i ∧ togg l own i < 2 ^ l.length := by
  have hx := hG.sets (rd l (i : Int)) (rd_mem l _ (by omega) (by omega))
  have hc : ((2 ^ l.length : Nat) : Int) = (2 : Int) ^ l.length := by simp
  unfold togg
  split
  · have h1 : (rd l (i : Int)).toNat < 2 ^ l.length := by omega
    have h2 : (rd l (i : Int)).toNat ||| 2 ^ i < 2 ^ l.length := Nat.or_lt_two_pow h1 (Nat.pow_lt_pow_right (by decide) hi)
    omega
  · exact hx
/-- What pressing a set does: d buttons from the i-th on. -/
def effFrom (l : List Int) (own : Bool) (s : Int) : Nat → Nat → Nat → Nat
  | 0, _, o => o
  | d + 1, i, o => effFrom l own s d (i + 1) (if bit s (i : Int) = true then o ^^^ (togg l own i).toNat else o)
/-- The sum of f over the members of s below n. -/
def sumX (f : Nat → Nat) (s : Nat) : Nat → Nat
  | 0 => 0
  | n + 1 => sumX f s n ^^^ (if s.testBit n = true then f n else 0)
theorem sumX_xor (f : Nat → Nat) (s t : Nat) : ∀ n, sumX f (s ^^^ t) n = sumX f s n ^^^ sumX f t n
  | 0 => by simp [sumX]
  | n + 1 => by
    unfold sumX
    have e : ∀ a b x y : Nat, (a ^^^ x) ^^^ (b ^^^ y) = (a ^^^ b) ^^^ (x ^^^ y) := fun a b x y => by ac_rfl
    rw [sumX_xor f s t n, Nat.testBit_xor, e]
    cases s.testBit n <;> cases t.testBit n <;> simp
theorem sumX_zero (f : Nat → Nat) : ∀ n, sumX f 0 n = 0
  | 0 => rfl
  | n + 1 => by unfold sumX; rw [sumX_zero f n]; simp
theorem sumX_pow (f : Nat → Nat) (j : Nat) : ∀ n, sumX f (2 ^ j) n = if j < n then f j else 0
  | 0 => by simp [sumX]
  | n + 1 => by
    unfold sumX
    rw [sumX_pow f j n, Nat.testBit_two_pow]
    by_cases e : j = n
    · subst e; simp
    · by_cases h : j < n
      · simp [e, h, show j < n + 1 by omega]
      · simp [e, h, show ¬ j < n + 1 by omega]
theorem sumX_lt (f : Nat → Nat) (s m : Nat) : ∀ n, (∀ i, i < n → f i < 2 ^ m) → sumX f s n < 2 ^ m
  | 0, _ => Nat.two_pow_pos m
  | n + 1, h => by
    unfold sumX
    refine Nat.xor_lt_two_pow (sumX_lt f s m n fun i hi => h i (by omega)) ?_
    split
    · exact h n (by omega)
    · exact Nat.two_pow_pos m
theorem sumX_congr (f g : Nat → Nat) (s : Nat) : ∀ n, (∀ i, i < n → f i = g i) → sumX f s n = sumX g s n
  | 0, _ => rfl
  | n + 1, h => by unfold sumX; rw [sumX_congr f g s n fun i hi => h i (by omega), h n (by omega)]
/-- The lights that a set toggles. -/
def eff (l : List Int) (own : Bool) (s : Nat) : Nat := sumX (fun i => (togg l own i).toNat) s l.length
theorem effFrom_go (l : List Int) (own : Bool) (s : Int) : ∀ (d i : Nat), effFrom l own s d i (sumX (fun i => (togg l own i).toNat) s.toNat i) = sumX (fun i => (togg l own i).toNat) s.toNat (i + d)
  | 0, i => rfl
  | d + 1, i => by
    rw [effFrom, show i + (d + 1) = (i + 1) + d by omega, ← effFrom_go l own s d (i + 1)]
    congr 1
    rw [sumX]
    unfold bit
    simp only [Int.toNat_natCast]
    split <;> simp
theorem effFrom_eff (l : List Int) (own : Bool) (s : Int) : effFrom l own s l.length 0 0 = eff l own s.toNat := by
  have h := effFrom_go l own s l.length 0
  rw [Nat.zero_add] at h
  exact h
theorem eff_xor (l : List Int) (own : Bool) (s t : Nat) : eff l own (s ^^^ t) = eff l own s ^^^ eff l own t := sumX_xor _ s t _
theorem eff_lt (l : List Int) (own : Bool) (hG : GoodG l) (s : Nat) : eff l own s < 2 ^ l.length := sumX_lt _ s _ _ fun i hi => by
  have h := togg_bounds l own hG i hi
  have hc : ((2 ^ l.length : Nat) : Int) = 2 ^ l.length := by simp
  omega
theorem eff_pow (l : List Int) (own : Bool) (j : Nat) (hj : j < l.length) : eff l own (2 ^ j) = (togg l own j).toNat := by unfold eff; rw [sumX_pow, if_pos hj]
/-- The sum of two sets. -/
def xorI (a b : Int) : Int := ((a.toNat ^^^ b.toNat : Nat) : Int)
def pressGo (l : List Int) (own : Bool) (s : Int) : List Int → Int
  | [] => s
  | i :: r => pressGo l own (xorI s (togg l own i.toNat)) r
def wordOk (n : Nat) (w : List Int) : Bool := decide (w.length ≤ 200) && w.all (isBtn n)
def pressWord (l : List Int) (own : Bool) (s : Int) (w : List Int) : Int × Bool := if (good l && inSet l.length s) = true then (if wordOk l.length w = true then (pressGo l own s w, true) else (0, false)) else (0, false)
def pressAll (l : List Int) (own : Bool) (s p : Int) : Int × Bool := if (good l && inSet l.length s) = true then (if inSet l.length p = true then (xorI s (eff l own p.toNat), true) else (0, false)) else (0, false)
def togglesOf (l : List Int) (own : Bool) (i : Int) : Int × Bool := if (good l && isBtn l.length i) = true then (togg l own i.toNat, true) else (0, false)
theorem inSet_lt {n : Nat} {s : Int} (h : inSet n s = true) : 0 ≤ s ∧ s.toNat < 2 ^ n ∧ s = (s.toNat : Int) := by
  simp only [inSet, Bool.and_eq_true, decide_eq_true_eq] at h
  have hc : ((2 ^ n : Nat) : Int) = 2 ^ n := by simp
  exact ⟨h.1, by omega, by omega⟩
theorem inSet_of {n s : Nat} (h : s < 2 ^ n) : inSet n (s : Int) = true := by
  have hc : ((2 ^ n : Nat) : Int) = 2 ^ n := by simp
  simp only [inSet, Bool.and_eq_true, decide_eq_true_eq]
  omega
/-- The buttons of a word, each as often as it stands there. -/
def oddOf (w : List Int) : Nat := w.foldl (fun s i => s ^^^ 2 ^ i.toNat) 0
theorem foldX (f : Int → Nat) : ∀ (w : List Int) (a : Nat), w.foldl (fun s i => s ^^^ f i) a = a ^^^ w.foldl (fun s i => s ^^^ f i) 0
  | [], a => by simp
  | i :: r, a => by
    rw [List.foldl_cons, List.foldl_cons, foldX f r (a ^^^ f i), foldX f r (0 ^^^ f i), Nat.zero_xor, Nat.xor_assoc]
theorem pressGo_eff (l : List Int) (own : Bool) : ∀ (w : List Int) (s : Int), (∀ i ∈ w, 0 ≤ i ∧ i < l.length) → 0 ≤ s → pressGo l own s w = ((s.toNat ^^^ eff l own (oddOf w) : Nat) : Int)
  | [], s, _, hs => by simp [pressGo, oddOf, eff, sumX_zero]; omega
  | i :: r, s, h, hs => by
    have hi := h i (List.mem_cons_self)
    rw [pressGo, pressGo_eff l own r _ (fun j hj => h j (List.mem_cons_of_mem _ hj)) (by unfold xorI; omega)]
    have e : oddOf (i :: r) = 2 ^ i.toNat ^^^ oddOf r := by unfold oddOf; rw [List.foldl_cons, foldX, Nat.zero_xor]
    rw [e, eff_xor, eff_pow l own i.toNat (by omega)]
    unfold xorI
    rw [Int.toNat_natCast, Nat.xor_assoc]
theorem oddOf_lt {n : Nat} : ∀ (w : List Int), (∀ i ∈ w, 0 ≤ i ∧ i < n) → oddOf w < 2 ^ n
  | [], _ => Nat.two_pow_pos n
  | i :: r, h => by
    have e : oddOf (i :: r) = 2 ^ i.toNat ^^^ oddOf r := by unfold oddOf; rw [List.foldl_cons, foldX, Nat.zero_xor]
    have hi := h i (List.mem_cons_self)
    rw [e]
    exact Nat.xor_lt_two_pow (Nat.pow_lt_pow_right (by decide) (by omega)) (oddOf_lt r fun j hj => h j (List.mem_cons_of_mem _ hj))
theorem pressGo_append (l : List Int) (own : Bool) : ∀ (u w : List Int) (s : Int), pressGo l own s (u ++ w) = pressGo l own (pressGo l own s u) w
  | [], w, s => rfl
  | i :: r, w, s => by rw [List.cons_append, pressGo, pressGo, pressGo_append l own r w]
theorem oddOf_append (u w : List Int) : oddOf (u ++ w) = oddOf u ^^^ oddOf w := by unfold oddOf; rw [List.foldl_append, foldX]
theorem pressWord_ok {l : List Int} {own : Bool} {s x : Int} {w : List Int} (h : pressWord l own s w = (x, true)) : GoodG l ∧ inSet l.length s = true ∧ wordOk l.length w = true ∧ x = pressGo l own s w := by
  unfold pressWord at h
  split at h
  · next e =>
    split at h
    · next e2 =>
      simp only [Bool.and_eq_true] at e
      injection h with h1 h2
      exact ⟨(good_iff l).1 e.1, e.2, e2, h1.symm⟩
    · injection h with h1 h2; cases h2
  · injection h with h1 h2; cases h2
theorem word_btn {n : Nat} {w : List Int} (h : wordOk n w = true) : ∀ i ∈ w, 0 ≤ i ∧ i < n := by
  simp only [wordOk, Bool.and_eq_true] at h
  exact btn_all h.2
theorem pressGo_in {l : List Int} {own : Bool} (hG : GoodG l) {s : Int} {w : List Int} (hs : inSet l.length s = true) (hw : ∀ i ∈ w, 0 ≤ i ∧ i < l.length) : inSet l.length (pressGo l own s w) = true := by
  obtain ⟨h0, h1, h2⟩ := inSet_lt hs
  rw [pressGo_eff l own w s hw h0]
  exact inSet_of (Nat.xor_lt_two_pow h1 (eff_lt l own hG _))
theorem isBtn_of {n : Nat} {i : Int} (h0 : 0 ≤ i) (h1 : i < n) : isBtn n i = true := by simp only [isBtn, Bool.and_eq_true, decide_eq_true_eq]; omega
/-- One button more of a word. -/
theorem pressWord_step {l : List Int} {own : Bool} {s x : Int} {w : List Int} (h : pressWord l own s w = (x, true)) (i : Nat) (hi : i < w.length) :
    0 ≤ rd w (i : Int) ∧ rd w (i : Int) < l.length ∧ l.length ≤ 16 ∧ pressWord l own (pressGo l own s (w.take i)) [rd w (i : Int)] = (pressGo l own s (w.take (i + 1)), true) ∧ oddOf (w.take (i + 1)) = oddOf (w.take i) ^^^ 2 ^ (rd w (i : Int)).toNat ∧ oddOf (w.take i) < 2 ^ l.length := by
  obtain ⟨hG, hs, hw, _⟩ := pressWord_ok h
  have hb := word_btn hw
  have hbt : ∀ j ∈ w.take i, 0 ≤ j ∧ j < l.length := fun j hj => hb j (List.mem_of_mem_take hj)
  have hx := hb w[i] (List.getElem_mem _)
  rw [rd_get w i hi, List.take_succ_eq_append_getElem hi, pressGo_append, oddOf_append]
  refine ⟨hx.1, hx.2, hG.top, ?_, by simp [oddOf], oddOf_lt _ hbt⟩
  unfold pressWord
  rw [(good_iff l).2 hG, pressGo_in hG hs hbt, if_pos (by rfl), if_pos (by simp [wordOk, isBtn_of hx.1 hx.2])]
theorem pressWord_all {l : List Int} {own : Bool} {s x : Int} {w : List Int} (h : pressWord l own s w = (x, true)) : pressAll l own s (oddOf w : Int) = (x, true) := by
  obtain ⟨hG, hs, hw, hx⟩ := pressWord_ok h
  have hb := word_btn hw
  obtain ⟨h0, h1, h2⟩ := inSet_lt hs
  unfold pressAll
  rw [(good_iff l).2 hG, hs, if_pos (by rfl), inSet_of (oddOf_lt w hb), if_pos rfl, hx, pressGo_eff l own w s hb h0, Int.toNat_natCast]
  unfold xorI
  rw [Int.toNat_natCast]
theorem odd_xor {a i : Nat} {n : Nat} (hn : n ≤ 16) (ha : a < 2 ^ n) (hi : i < n) : Go.bits .xor .i64 (a : Int) (wrap64 (2 ^ i)) = ((a ^^^ 2 ^ i : Nat) : Int) := by
  have h1 : (2 : Nat) ^ n ≤ 2 ^ 16 := Nat.pow_le_pow_right (by decide) hn
  have h2 : (2 : Nat) ^ i < 2 ^ n := Nat.pow_lt_pow_right (by decide) hi
  have e : (2 : Int) ^ i = ((2 ^ i : Nat) : Int) := by simp
  rw [e]
  generalize 2 ^ i = m at h2
  rw [wrap_id (by omega) (by omega)]
  exact xor_nat a _ (by omega) (by omega)
theorem pressAll_ok {l : List Int} {own : Bool} {s p x : Int} (h : pressAll l own s p = (x, true)) : GoodG l ∧ inSet l.length s = true ∧ inSet l.length p = true ∧ x = xorI s (eff l own p.toNat) := by
  unfold pressAll at h
  split at h
  · next e =>
    split at h
    · next e2 =>
      simp only [Bool.and_eq_true] at e
      injection h with h1 h2
      exact ⟨(good_iff l).1 e.1, e.2, e2, h1.symm⟩
    · injection h with h1 h2; cases h2
  · injection h with h1 h2; cases h2
/-- What is pressed twice. -/
theorem pressAll_back {l : List Int} {own : Bool} {s p x : Int} (h : pressAll l own s p = (x, true)) : pressAll l own x p = (s, true) ∧ pressAll l own 0 p = ((eff l own p.toNat : Int), true) ∧ Go.bits .xor .i64 s (eff l own p.toNat : Int) = x := by
  obtain ⟨hG, hs, hp, hx⟩ := pressAll_ok h
  obtain ⟨h0, h1, h2⟩ := inSet_lt hs
  have he := eff_lt l own hG p.toNat
  have hg := (good_iff l).2 hG
  have ho : inSet l.length x = true := by rw [hx]; exact inSet_of (Nat.xor_lt_two_pow h1 (by simpa using he))
  refine ⟨?_, ?_, ?_⟩
  · unfold pressAll
    rw [hg, ho, hp, if_pos (by rfl), if_pos rfl, hx]
    unfold xorI
    rw [Int.toNat_natCast, Int.toNat_natCast, Nat.xor_assoc, Nat.xor_self, Nat.xor_zero, ← h2]
  · unfold pressAll
    rw [hg, show inSet l.length 0 = true from inSet_of (n := l.length) (s := 0) (Nat.two_pow_pos _), hp, if_pos (by rfl), if_pos rfl]
    simp [xorI]
  · have h3 : (2 : Nat) ^ l.length ≤ 2 ^ 16 := Nat.pow_le_pow_right (by decide) hG.top
    rw [hx, xor_eq h0 (by omega) (by omega) (by omega)]
    rfl
theorem togg_due {l : List Int} (hG : GoodG l) {i : Int} (h0 : 0 ≤ i) (h1 : i < l.length) : togg l false i.toNat = rd l i ∧ togg l true i.toNat = Go.bits .or .i64 (rd l i) (wrap64 (2 ^ i.toNat)) := by
  have hx := hG.sets (rd l i) (rd_mem l i h0 h1)
  have h16 := pow16 hG.top
  have hn := hG.top
  have e : (2 : Int) ^ i.toNat = ((2 ^ i.toNat : Nat) : Int) := by simp
  have h2 : (2 : Nat) ^ i.toNat ≤ 2 ^ 16 := Nat.pow_le_pow_right (by decide) (by omega)
  unfold togg
  rw [show ((i.toNat : Nat) : Int) = i by omega]
  refine ⟨by simp, ?_⟩
  rw [if_pos rfl, e]
  generalize 2 ^ i.toNat = m at h2
  rw [wrap_id (by omega) (by omega), or_eq (by omega) (by omega) (by omega) (by omega)]
  simp
theorem togglesOf_ok {l : List Int} {own : Bool} {i x : Int} (h : togglesOf l own i = (x, true)) : GoodG l ∧ 0 ≤ i ∧ i < l.length ∧ x = togg l own i.toNat := by
  unfold togglesOf at h
  split at h
  · next e =>
    simp only [Bool.and_eq_true] at e
    injection h with h1 h2
    have hb := btn_all (n := l.length) (w := [i]) (by simp [e.2]) i (by simp)
    exact ⟨(good_iff l).1 e.1, hb.1, hb.2, h1.symm⟩
  · injection h with h1 h2; cases h2
end Go.Proofs.YtlohlngmagpepaaGreatM
