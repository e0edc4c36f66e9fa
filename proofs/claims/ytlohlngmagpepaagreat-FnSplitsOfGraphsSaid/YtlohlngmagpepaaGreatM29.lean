/- Plain laws on quiet sets of graphs whose buttons have their own lights: they have an even number of buttons. No program in sight. -/
import Derived.Test.YtlohlngmagpepaaGreatM28
namespace Go.Proofs.YtlohlngmagpepaaGreatM
open Go.RowKit Go.Proofs.YtlohlngmagpepaaGreatW.PrintWords Go.Proofs.YtlohlngmagpepaaGreatW.PrintLast Go.Proofs.YtlohlngmagpepaaGreatW.PrintMore
set_option linter.unusedVariables false
set_option linter.unusedSimpArgs false
theorem togg_own {l : List Int} (hG : GoodG l) {i : Nat} (hi : i < l.length) : (togg l true i).toNat = nb l i ^^^ 2 ^ i := by
  unfold togg nb
  rw [if_pos rfl, Int.toNat_natCast]
  have h := nb_irr hG hi
  unfold nb at h
  apply Nat.eq_of_testBit_eq
  intro j
  rw [Nat.testBit_or, Nat.testBit_xor, Nat.testBit_two_pow]
  by_cases e : i = j
  · subst e
    rw [h]
    simp
  · simp [e]
theorem meet_even {l : List Int} (hG : GoodG l) {q : Nat} (hq : q < 2 ^ l.length) (h0 : sumX (fun i => (togg l true i).toNat) q l.length = 0) {i : Nat} (hi : i < l.length) (hb : q.testBit i = true) : meet l q i % 2 = 1 := by
  have hn : l.length ≤ 63 := by have := hG.top; omega
  have h1 := sumX_par (sym_graph hG true) hn q hi
  rw [h0, Nat.zero_testBit] at h1
  have h2 : oddm q ((togg l true i).toNat) = false := h1.symm
  rw [togg_own hG hi, oddm_comm, oddm_xor hn _ _ hq, oddm_pow, hb] at h2
  have h3 : oddm (nb l i) q = true := by
    cases e : oddm (nb l i) q
    · rw [e] at h2
      cases h2
    · rfl
  unfold oddm at h3
  simpa [meet] using h3
theorem sum_odd (f : Nat → Nat) (s : Nat) : ∀ (d i : Nat), (∀ x, i ≤ x → x < i + d → s.testBit x = true → f x % 2 = 1) → sumFrom (fun x => if s.testBit x = true then f x else 0) i d % 2 = sumFrom (fun x => one (s.testBit x)) i d % 2
  | 0, i, _ => rfl
  | d + 1, i, h => by
    have ih := sum_odd f s d (i + 1) fun x h1 h2 => h x (by omega) (by omega)
    simp only [sumFrom]
    have h1 : (if s.testBit i = true then f i else 0) % 2 = one (s.testBit i) % 2 := by
      cases e : s.testBit i
      · rfl
      · rw [if_pos rfl, h i (Nat.le_refl i) (by omega) e]
        rfl
    omega
/-- A quiet set of a graph with own lights has an even number of buttons. -/
theorem quiet_even {l : List Int} (hG : GoodG l) {q : Nat} (hq : q < 2 ^ l.length) (h0 : sumX (fun i => (togg l true i).toNat) q l.length = 0) : pop q % 2 = 0 := by
  have hc := pow_cast l.length
  have h1 := meets_twice l hG (q : Int) (by omega) (by omega)
  rw [meets_nat] at h1
  have h2 := sum_odd (meet l q) q l.length 0 fun x _ hx hb => meet_even hG hq h0 (by omega) hb
  rw [h1, ← pop_sum (by have := hG.top; omega) hq] at h2
  omega
end Go.Proofs.YtlohlngmagpepaaGreatM
