/- Plain laws on reflections: they undo themselves, keep the form, and are lit presses of what a set toggles. No program in sight. -/
import Derived.Test.YtlohlngmagpepaaGreatM12
import Derived.Test.YtlohlngmagpepaaGreatM15
namespace Go.Proofs.YtlohlngmagpepaaGreatM
open Go.RowKit Go.Proofs.YtlohlngmagpepaaGreatW.PrintWords Go.Proofs.YtlohlngmagpepaaGreatW.PrintLast Go.Proofs.YtlohlngmagpepaaGreatW.PrintMore
set_option linter.unusedVariables false
set_option linter.unusedSimpArgs false
theorem sumFrom_point (f g : Nat → Nat) (i : Nat) : ∀ (d a : Nat), a ≤ i → i < a + d → (∀ x, a ≤ x → x < a + d → x ≠ i → f x = g x) → sumFrom f a d + g i = sumFrom g a d + f i
  | 0, a, h1, h2, _ => by omega
  | d + 1, a, h1, h2, h => by
    simp only [sumFrom]
    by_cases e : a = i
    · subst e
      rw [sumFrom_congr f g d (a + 1) (fun x h3 h4 => h x (by omega) (by omega) (by omega))]
      omega
    · have := sumFrom_point f g i d (a + 1) (by omega) (by omega) (fun x h3 h4 h5 => h x (by omega) (by omega) h5)
      rw [h a (by omega) (by omega) e]
      omega
theorem sumFrom_last (f : Nat → Nat) : ∀ (d a : Nat), sumFrom f a (d + 1) = sumFrom f a d + f (a + d)
  | 0, a => by simp [sumFrom]
  | d + 1, a => by
    have := sumFrom_last f d (a + 1)
    rw [sumFrom, this, sumFrom, show a + 1 + d = a + (d + 1) by omega]
    omega
/-- The i-th neighbours. -/
def nb (l : List Int) (i : Nat) : Nat := (rd l (i : Int)).toNat
theorem nb_lt {l : List Int} (hG : GoodG l) {i : Nat} (hi : i < l.length) : nb l i < 2 ^ l.length := by
  have hx := hG.sets (rd l (i : Int)) (rd_mem l _ (by omega) (by omega))
  have hc := pow_cast l.length
  unfold nb
  omega
theorem nb_irr {l : List Int} (hG : GoodG l) {i : Nat} (hi : i < l.length) : (nb l i).testBit i = false := by
  have h := hG.irr i hi
  rw [← rd_getD] at h
  unfold bit at h
  rw [Int.toNat_natCast] at h
  exact h
theorem nb_sym {l : List Int} (hG : GoodG l) {i j : Nat} (hi : i < l.length) (hj : j < l.length) : (nb l i).testBit j = (nb l j).testBit i := by
  have h := hG.sym i j hi hj
  rw [← rd_getD, ← rd_getD] at h
  unfold bit at h
  rw [Int.toNat_natCast, Int.toNat_natCast] at h
  exact h
theorem and_lt {a b n : Nat} (h : a < 2 ^ n) : a &&& b < 2 ^ n := Nat.lt_of_le_of_lt Nat.and_le_left h
theorem pow2_lt {i n : Nat} (h : i < n) : 2 ^ i < 2 ^ n := Nat.pow_lt_pow_right (by decide) h
theorem pop_and_more {n a s i : Nat} (hn : n ≤ 16) (ha : a < 2 ^ n) (hi : i < n) (h : s.testBit i = false) : pop (a &&& (s ^^^ 2 ^ i)) = pop (a &&& s) + one (a.testBit i) := by
  rw [pop_sum (k := n) (by omega) (and_lt ha), pop_sum (k := n) (by omega) (and_lt ha)]
  have := sumFrom_point (fun j => one ((a &&& (s ^^^ 2 ^ i)).testBit j)) (fun j => one ((a &&& s).testBit j)) i n 0 (by omega) (by omega) (fun x _ _ hx => by
    simp only [Nat.testBit_and, Nat.testBit_xor, Nat.testBit_two_pow]
    rw [show decide (i = x) = false by simp; omega]
    simp)
  simp only [Nat.testBit_and, Nat.testBit_xor, Nat.testBit_two_pow, h] at this ⊢
  simpa [one] using this
theorem pop_more {n s i : Nat} (hn : n ≤ 16) (hs : s < 2 ^ n) (hi : i < n) (h : s.testBit i = false) : pop (s ^^^ 2 ^ i) = pop s + 1 := by
  rw [pop_sum (k := n) (by omega) (Nat.xor_lt_two_pow hs (pow2_lt hi)), pop_sum (k := n) (by omega) hs]
  have := sumFrom_point (fun j => one ((s ^^^ 2 ^ i).testBit j)) (fun j => one (s.testBit j)) i n 0 (by omega) (by omega) (fun x _ _ hx => by
    simp only [Nat.testBit_xor, Nat.testBit_two_pow]
    rw [show decide (i = x) = false by simp; omega]
    simp)
  simp only [Nat.testBit_xor, Nat.testBit_two_pow, h] at this ⊢
  simpa [one] using this
/-- How often a set meets the neighbours of a button. -/
def meet (l : List Int) (s i : Nat) : Nat := pop (nb l i &&& s)
theorem meet_flip {l : List Int} (hG : GoodG l) {s i : Nat} (hi : i < l.length) : meet l (s ^^^ 2 ^ i) i = meet l s i := by
  unfold meet
  congr 1
  apply Nat.eq_of_testBit_eq
  intro j
  simp only [Nat.testBit_and, Nat.testBit_xor, Nat.testBit_two_pow]
  by_cases e : i = j
  · subst e
    rw [nb_irr hG hi]
    simp
  · simp [e]
theorem meet_sum {l : List Int} (hG : GoodG l) {s i : Nat} (hi : i < l.length) : meet l s i = sumFrom (fun x => one (s.testBit x && (nb l x).testBit i)) 0 l.length := by
  unfold meet
  rw [pop_sum (k := l.length) (by have := hG.top; omega) (and_lt (nb_lt hG hi))]
  refine sumFrom_congr _ _ _ _ fun x _ hx => ?_
  simp only [Nat.testBit_and]
  rw [nb_sym hG hi (by omega), Bool.and_comm]
theorem meets_nat (l : List Int) (s : Nat) : meets l (s : Int) 0 l.length = sumFrom (fun x => if s.testBit x = true then meet l s x else 0) 0 l.length := by
  unfold meets
  refine sumFrom_congr _ _ _ _ fun x _ _ => ?_
  unfold bit meet nb
  rw [Int.toNat_natCast, Int.toNat_natCast]
theorem meets_more {l : List Int} (hG : GoodG l) {s i : Nat} (hi : i < l.length) (h : s.testBit i = false) : meets l ((s ^^^ 2 ^ i : Nat) : Int) 0 l.length = meets l (s : Int) 0 l.length + 2 * meet l s i := by
  rw [meets_nat, meets_nat]
  have h1 := sumFrom_point (fun x => if (s ^^^ 2 ^ i).testBit x = true then meet l (s ^^^ 2 ^ i) x else 0) (fun x => (if s.testBit x = true then meet l s x else 0) + one (s.testBit x && (nb l x).testBit i)) i l.length 0 (by omega) (by omega) (fun x _ hx hxi => by
    simp only [Nat.testBit_xor, Nat.testBit_two_pow]
    rw [show decide (i = x) = false by simp; omega, Bool.xor_false]
    cases e : s.testBit x
    · simp [one]
    · rw [if_pos rfl, if_pos rfl, Bool.true_and]
      exact pop_and_more hG.top (nb_lt hG (by omega)) hi h)
  rw [sumFrom_add, ← meet_sum hG hi] at h1
  have e1 : (s ^^^ 2 ^ i).testBit i = true := by simp [Nat.testBit_xor, h]
  simp only [e1, h, if_true, meet_flip hG hi, Bool.false_and, Bool.false_eq_true, if_false, one] at h1
  omega
theorem edges_more {l : List Int} (hG : GoodG l) {s i : Nat} (hs : s < 2 ^ l.length) (hi : i < l.length) (h : s.testBit i = false) : (edgesOf l).countP (within ((s ^^^ 2 ^ i : Nat) : Int)) = (edgesOf l).countP (within (s : Int)) + meet l s i := by
  have hc := pow_cast l.length
  have h1 := meets_more hG hi h
  have h3 : s ^^^ 2 ^ i < 2 ^ l.length := Nat.xor_lt_two_pow hs (pow2_lt hi)
  rw [meets_twice l hG (s : Int) (by omega) (by omega), meets_twice l hG ((s ^^^ 2 ^ i : Nat) : Int) (by omega) (by omega)] at h1
  omega
theorem form_more {l : List Int} (hG : GoodG l) {s i : Nat} (hs : s < 2 ^ l.length) (hi : i < l.length) (h : s.testBit i = false) (ho : meet l s i % 2 = 1) : formOf l ((s ^^^ 2 ^ i : Nat) : Int) = formOf l (s : Int) := by
  unfold formOf
  rw [edges_more hG hs hi h, Int.toNat_natCast, Int.toNat_natCast, pop_more hG.top hs hi h]
  omega
theorem form_flip {l : List Int} (hG : GoodG l) {s i : Nat} (hs : s < 2 ^ l.length) (hi : i < l.length) (ho : meet l s i % 2 = 1) : formOf l ((s ^^^ 2 ^ i : Nat) : Int) = formOf l (s : Int) := by
  cases e : s.testBit i
  · exact form_more hG hs hi e ho
  · have h := form_more hG (s := s ^^^ 2 ^ i) (Nat.xor_lt_two_pow hs (pow2_lt hi)) hi (by simp [Nat.testBit_xor, e]) (by rw [meet_flip hG hi]; exact ho)
    rw [Nat.xor_assoc, Nat.xor_self, Nat.xor_zero] at h
    exact h.symm
theorem move_refl (l : List Int) (s i : Nat) : moveOf l true s i = if meet l s i % 2 = 1 then s ^^^ 2 ^ i else s := by
  unfold moveOf reflOne meet nb
  rw [if_pos rfl, Int.toNat_natCast, Int.toNat_natCast]
  split <;> simp
theorem reflOne_move (l : List Int) {s i : Int} (hs : 0 ≤ s) (hi : 0 ≤ i) : reflOne l s i = (moveOf l true s.toNat i.toNat : Int) := by
  unfold moveOf
  rw [if_pos rfl, show ((s.toNat : Nat) : Int) = s by omega, show ((i.toNat : Nat) : Int) = i by omega]
  unfold reflOne
  split <;> omega
theorem refl_back {l : List Int} (hG : GoodG l) {s i : Nat} (hi : i < l.length) : moveOf l true (moveOf l true s i) i = s := by
  rw [move_refl, move_refl]
  by_cases e : meet l s i % 2 = 1
  · rw [if_pos e, meet_flip hG hi, if_pos e, Nat.xor_assoc, Nat.xor_self, Nat.xor_zero]
  · rw [if_neg e, if_neg e]
theorem refl_form {l : List Int} (hG : GoodG l) {s i : Nat} (hs : s < 2 ^ l.length) (hi : i < l.length) : formOf l (moveOf l true s i : Int) = formOf l (s : Int) := by
  rw [move_refl]
  split
  · next e => exact form_flip hG hs hi e
  · rfl
theorem sumX_bit (f : Nat → Nat) (s i : Nat) : ∀ n, (sumX f s n).testBit i = decide (sumFrom (fun x => one (s.testBit x && (f x).testBit i)) 0 n % 2 = 1)
  | 0 => by simp [sumX, sumFrom]
  | n + 1 => by
    rw [sumX, sumFrom_last, Nat.testBit_xor, sumX_bit f s i n, Nat.zero_add]
    generalize sumFrom (fun x => one (s.testBit x && (f x).testBit i)) 0 n = m
    cases e : s.testBit n
    · simp [one]
    · cases e2 : (f n).testBit i
      · simp [one, e2]
      · rcases Nat.mod_two_eq_zero_or_one m with h | h <;> simp [one, e2, h, Nat.add_mod]
theorem eff_meet {l : List Int} (hG : GoodG l) {s i : Nat} (hi : i < l.length) : (eff l false s).testBit i = decide (meet l s i % 2 = 1) := by
  unfold eff
  rw [sumX_bit, meet_sum hG hi]
  rfl
theorem eff_refl {l : List Int} (hG : GoodG l) {s i : Nat} (hi : i < l.length) : eff l false (moveOf l true s i) = moveOf l false (eff l false s) i := by
  have e2 := eff_pow l false i hi
  rw [move_refl]
  unfold moveOf
  rw [if_neg (show ¬ (false = true) by decide), eff_meet hG hi]
  by_cases e : meet l s i % 2 = 1
  · rw [if_pos e, if_pos (by simpa using e), eff_xor, e2]
    rfl
  · rw [if_neg e, if_neg (by simpa using e)]
open Classical in
theorem formsGo_eq (l : List Int) (a : Int) : ∀ (d i : Nat) (m0 m1 : Bool), formsGo l a d i m0 m1 = (m0 || decide (∃ x, i ≤ x ∧ x < i + d ∧ (eff l false x : Int) = a ∧ formOf l (x : Int) = 0), m1 || decide (∃ x, i ≤ x ∧ x < i + d ∧ (eff l false x : Int) = a ∧ formOf l (x : Int) ≠ 0))
  | 0, i, m0, m1 => by
    have e0 : ¬ ∃ x, i ≤ x ∧ x < i + 0 ∧ (eff l false x : Int) = a ∧ formOf l (x : Int) = 0 := fun ⟨x, h1, h2, _⟩ => by omega
    have e1 : ¬ ∃ x, i ≤ x ∧ x < i + 0 ∧ (eff l false x : Int) = a ∧ formOf l (x : Int) ≠ 0 := fun ⟨x, h1, h2, _⟩ => by omega
    rw [formsGo, decide_eq_false e0, decide_eq_false e1]
    simp
  | d + 1, i, m0, m1 => by
    have hstep : ∀ P : Nat → Prop, (∃ x, i ≤ x ∧ x < i + (d + 1) ∧ P x) ↔ (P i ∨ ∃ x, i + 1 ≤ x ∧ x < i + 1 + d ∧ P x) := fun P => by
      constructor
      · rintro ⟨x, h1, h2, h3⟩
        by_cases e : x = i
        · exact .inl (e ▸ h3)
        · exact .inr ⟨x, by omega, by omega, h3⟩
      · rintro (h | ⟨x, h1, h2, h3⟩)
        · exact ⟨i, by omega, by omega, h⟩
        · exact ⟨x, by omega, by omega, h3⟩
    have d0 : decide (∃ x, i ≤ x ∧ x < i + (d + 1) ∧ (eff l false x : Int) = a ∧ formOf l (x : Int) = 0) = decide (((eff l false i : Int) = a ∧ formOf l (i : Int) = 0) ∨ ∃ x, i + 1 ≤ x ∧ x < i + 1 + d ∧ (eff l false x : Int) = a ∧ formOf l (x : Int) = 0) := decide_eq_decide.2 (hstep _)
    have d1 : decide (∃ x, i ≤ x ∧ x < i + (d + 1) ∧ (eff l false x : Int) = a ∧ formOf l (x : Int) ≠ 0) = decide (((eff l false i : Int) = a ∧ formOf l (i : Int) ≠ 0) ∨ ∃ x, i + 1 ≤ x ∧ x < i + 1 + d ∧ (eff l false x : Int) = a ∧ formOf l (x : Int) ≠ 0) := decide_eq_decide.2 (hstep _)
    rw [formsGo, effFrom_eff, Int.toNat_natCast, d0, d1, formsGo_eq l a d (i + 1), formsGo_eq l a d (i + 1), formsGo_eq l a d (i + 1)]
    by_cases e : (eff l false i : Int) = a
    · rw [if_pos e]
      by_cases e2 : formOf l (i : Int) = 0
      · rw [if_pos e2]
        simp [e, e2]
      · rw [if_neg e2]
        simp [e, e2]
    · rw [if_neg e]
      simp [e]
theorem forms_some {l : List Int} (hG : GoodG l) {a i : Nat} (hi : i < l.length) (P : Int → Prop) (h : ∃ x, 0 ≤ x ∧ x < 0 + 2 ^ l.length ∧ (eff l false x : Int) = (a : Int) ∧ P (formOf l (x : Int))) :
    ∃ x, 0 ≤ x ∧ x < 0 + 2 ^ l.length ∧ (eff l false x : Int) = (moveOf l false a i : Int) ∧ P (formOf l (x : Int)) := by
  obtain ⟨x, _, h2, h3, h4⟩ := h
  refine ⟨moveOf l true x i, Nat.zero_le _, ?_, ?_, ?_⟩
  · have := moveOf_lt l hG true x i (by omega) hi
    omega
  · rw [eff_refl hG hi, show eff l false x = a by omega]
  · rw [refl_form hG (by omega) hi]
    exact h4
open Classical in
theorem forms_move {l : List Int} (hG : GoodG l) {a i : Nat} (ha : a < 2 ^ l.length) (hi : i < l.length) : formsGo l (moveOf l false a i : Int) (2 ^ l.length) 0 false false = formsGo l (a : Int) (2 ^ l.length) 0 false false := by
  have hb := litMove_back l hG a i ha hi
  have h1 : ∀ P : Int → Prop, (∃ x, 0 ≤ x ∧ x < 0 + 2 ^ l.length ∧ (eff l false x : Int) = (moveOf l false a i : Int) ∧ P (formOf l (x : Int))) ↔ (∃ x, 0 ≤ x ∧ x < 0 + 2 ^ l.length ∧ (eff l false x : Int) = (a : Int) ∧ P (formOf l (x : Int))) := fun P => by
    constructor
    · intro h
      have := forms_some hG hi P h
      rw [hb] at this
      exact this
    · exact forms_some hG hi P
  rw [formsGo_eq, formsGo_eq, decide_eq_decide.2 (h1 fun v => v = 0), decide_eq_decide.2 (h1 fun v => v ≠ 0)]
/-- What is told of lights. -/
def lightsR (l : List Int) (a : Int) : Int × Bool := if (good l && decide (l.length ≤ 9) && inSet l.length a) = true then formsEnd (formsGo l a (2 ^ l.length) 0 false false) else (0, false)
theorem lights_orbit {l : List Int} (hG : GoodG l) {a : Nat} (ha : a < 2 ^ l.length) : ∀ x ∈ orbitOf l false a, lightsR l (x : Int) = lightsR l (a : Int) := by
  intro x hx
  rw [mem_orbitOf l hG a x ha] at hx
  have := orbL_least (mv := moveOf l false) (n := l.length) (s := a) (fun y => y < 2 ^ l.length ∧ formsGo l (y : Int) (2 ^ l.length) 0 false false = formsGo l (a : Int) (2 ^ l.length) 0 false false) ⟨ha, rfl⟩ (fun y i ⟨h1, h2⟩ hi => ⟨moveOf_lt l hG false y i h1 hi, by rw [forms_move hG h1 hi, h2]⟩) x hx
  unfold lightsR
  rw [inSet_of this.1, inSet_of ha, this.2]
theorem mem_orbitR (l : List Int) (hG : GoodG l) (s x : Nat) (hs : s < 2 ^ l.length) : x ∈ orbitOf l true s ↔ x ∈ orbL (moveOf l true) l.length s := by
  have hok := orbL_ok (mv := moveOf l true) (n := l.length) (fun s i h1 h2 => moveOf_lt l hG true s i h1 h2) hs
  unfold orbitOf rising
  rw [List.mem_filter, List.mem_range, List.contains_iff_mem]
  exact ⟨fun h => h.2, fun h => ⟨hok.low x h, h⟩⟩
theorem form_orbit {l : List Int} (hG : GoodG l) {s : Nat} (hs : s < 2 ^ l.length) : ∀ x ∈ orbitOf l true s, x < 2 ^ l.length ∧ formOf l (x : Int) = formOf l (s : Int) := by
  intro x hx
  rw [mem_orbitR l hG s x hs] at hx
  exact orbL_least (mv := moveOf l true) (n := l.length) (s := s) (fun y => y < 2 ^ l.length ∧ formOf l (y : Int) = formOf l (s : Int)) ⟨hs, rfl⟩ (fun y i ⟨h1, h2⟩ hi => ⟨moveOf_lt l hG true y i h1 hi, by rw [refl_form hG h1 hi, h2]⟩) x hx
/-- A set's form, or none. -/
def formR (l : List Int) (s : Int) : Int × Bool := if (good l && decide (l.length ≤ 9) && inSet l.length s) = true then (formOf l s, true) else (0, false)
theorem reflWord_one {l : List Int} {s i x : Int} (h : reflWord l s [i] = (x, true)) : GoodG l ∧ l.length ≤ 9 ∧ inSet l.length s = true ∧ 0 ≤ i ∧ i < l.length ∧ x = (moveOf l true s.toNat i.toNat : Int) := by
  unfold reflWord at h
  split at h
  · next e =>
    split at h
    · next e2 =>
      simp only [Bool.and_eq_true, decide_eq_true_eq] at e e2
      have hb := btn_all e2.2 i (by simp)
      injection h with h1 h2
      have hs := inSet_lt e.2
      refine ⟨(good_iff l).1 e.1.1, e.1.2, e.2, hb.1, hb.2, ?_⟩
      rw [← h1, ← reflOne_move l hs.1 hb.1]
      rfl
    · cases h
  · cases h
theorem reflWord_back {l : List Int} {s i x : Int} (h : reflWord l s [i] = (x, true)) : reflWord l x [i] = (s, true) ∧ formR l s = (formOf l s, true) ∧ formR l x = (formOf l s, true) ∧ pressAll l false 0 s = ((eff l false s.toNat : Int), true) ∧ pressAll l false 0 x = ((moveOf l false (eff l false s.toNat) i.toNat : Int), true) := by
  obtain ⟨hG, hn, hs, h0, h1, hx⟩ := reflWord_one h
  obtain ⟨s0, s1, s2⟩ := inSet_lt hs
  have hi : i.toNat < l.length := by omega
  have hm := moveOf_lt l hG true s.toNat i.toNat s1 hi
  have hxs : inSet l.length x = true := by rw [hx]; exact inSet_of hm
  have hg := (good_iff l).2 hG
  have hz : inSet l.length 0 = true := inSet_of (n := l.length) (s := 0) (Nat.two_pow_pos _)
  have hf := refl_form hG s1 hi
  rw [← hx, ← s2] at hf
  have hc : (good l && decide (l.length ≤ 9) && inSet l.length s) = true := by rw [hg, hs]; simpa using hn
  have hc2 : (good l && decide (l.length ≤ 9) && inSet l.length x) = true := by rw [hg, hxs]; simpa using hn
  refine ⟨?_, ?_, ?_, ?_, ?_⟩
  · unfold reflWord
    rw [if_pos hc2, if_pos (by simp [isBtn_of h0 h1])]
    show (reflOne l x i, true) = _
    rw [reflOne_move l (by rw [hx]; omega) h0, hx, Int.toNat_natCast, refl_back hG hi, ← s2]
  · unfold formR
    rw [if_pos hc]
  · unfold formR
    rw [if_pos hc2, hf]
  · unfold pressAll
    rw [if_pos (by rw [hg, hz]; rfl), if_pos hs]
    simp [xorI]
  · unfold pressAll
    rw [if_pos (by rw [hg, hz]; rfl), if_pos hxs, ← eff_refl hG hi, hx]
    simp [xorI]
theorem lit_press {l : List Int} (hG : GoodG l) (hn : l.length ≤ 9) {a i : Nat} (ha : a < 2 ^ l.length) (hi : i < l.length) {x : Int} {ok : Bool} (h : litWord l (a : Int) [(i : Int)] = (x, ok)) : (ok = true → x = (moveOf l false a i : Int)) ∧ (ok = false → moveOf l false a i = a) := by
  have hc : (good l && decide (l.length ≤ 9) && inSet l.length (a : Int)) = true := by rw [(good_iff l).2 hG, inSet_of ha]; simpa using hn
  unfold litWord at h
  rw [if_pos hc, if_pos (by simp [isBtn_of (n := l.length) (i := (i : Int)) (by omega) (by omega)])] at h
  unfold litGo litGo bit at h
  rw [Int.toNat_natCast, Int.toNat_natCast] at h
  unfold moveOf
  rw [if_neg (by decide)]
  cases e : a.testBit i
  · rw [e] at h
    simp at h
    obtain ⟨h1, rfl⟩ := h
    simp
  · rw [e] at h
    simp at h
    obtain ⟨h1, rfl⟩ := h
    simp [← h1]
theorem formSpread_sum {l : List Int} {z o : Int} (h : formSpread l = (z, o, true)) : z + o = ((2 ^ l.length : Nat) : Int) ∧ 1 ≤ l.length ∧ l.length ≤ 9 := by
  unfold formSpread at h
  split at h
  · next e =>
    simp only [Bool.and_eq_true, decide_eq_true_eq] at e
    have hG := (good_iff l).1 e.1
    injection h with h1 h2
    injection h2 with h2 h3
    exact ⟨by omega, hG.one, e.2⟩
  · injection h with h1 h2
    injection h2 with h2 h3
    cases h3
end Go.Proofs.YtlohlngmagpepaaGreatM
