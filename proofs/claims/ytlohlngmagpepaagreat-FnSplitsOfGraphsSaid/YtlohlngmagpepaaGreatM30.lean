/- Plain laws on all lights: they can be lit where buttons have their own ones. No program in sight. -/
import Derived.Test.YtlohlngmagpepaaGreatM28
import Derived.Test.YtlohlngmagpepaaGreatM29
namespace Go.Proofs.YtlohlngmagpepaaGreatM
open Go.RowKit Go.Proofs.YtlohlngmagpepaaGreatW.PrintWords Go.Proofs.YtlohlngmagpepaaGreatW.PrintLast Go.Proofs.YtlohlngmagpepaaGreatW.PrintMore
set_option linter.unusedVariables false
set_option linter.unusedSimpArgs false
/-- What AllOn returns. -/
def allR (l : List Int) (own : Bool) : Int × Bool := if good l = true then (if (reach (svG l own).ps (2 ^ l.length - 1)).1 = 0 then ((red (svG l own).quiet (reach (svG l own).ps (2 ^ l.length - 1)).2 : Int), true) else (0, false)) else (0, false)
theorem full_in (n : Nat) : inSet n ((2 ^ n - 1 : Nat) : Int) = true := inSet_of (n := n) (by have := Nat.two_pow_pos n; omega)
theorem allR_solve (l : List Int) (own : Bool) : allR l own = solveR l own ((2 ^ l.length - 1 : Nat) : Int) := by
  unfold allR solveR boardOk
  rw [full_in, Bool.and_true, Int.toNat_natCast]
theorem allR_bad {l : List Int} (own : Bool) (s : Int) (h : good l = false) : solveR l own s = (0, false) ∧ allR l own = (0, false) := by
  unfold solveR allR boardOk
  rw [h]
  exact ⟨rfl, rfl⟩
theorem basis_even {l : List Int} (hG : GoodG l) : ∀ b ∈ (svG l true).quiet, b < 2 ^ l.length ∧ pop b % 2 = 0 := fun b hb => by
  obtain ⟨g1, g2⟩ := ((inv_graph hG true).qs b).1 (Sp.one hb)
  exact ⟨g1, quiet_even hG g1 g2⟩
/-- All lights can be lit where buttons have their own ones. -/
theorem all_own {l : List Int} (hG : GoodG l) : ∃ p : Nat, p < 2 ^ l.length ∧ allR l true = ((p : Int), true) ∧ pressAll l true 0 p = (((2 ^ l.length - 1 : Nat) : Int), true) ∧ ∀ i, i < l.length → pop ((togg l true i).toNat &&& p) % 2 = 1 := by
  have hI := inv_graph hG true
  have hS := sym_graph hG true
  have hn : l.length ≤ 63 := by have := hG.top; omega
  have hp := Nat.two_pow_pos l.length
  have hb : boardOk l ((2 ^ l.length - 1 : Nat) : Int) = true := by
    unfold boardOk
    rw [full_in, (good_iff l).2 hG]
    rfl
  have e : (reach (svG l true).ps (2 ^ l.length - 1)).1 = 0 := by
    apply Classical.byContradiction
    intro hne
    obtain ⟨c, hc, ho⟩ := refused hS hn hI (y := 2 ^ l.length - 1) (by omega) (fun g => hne ((reach_iff hI _).2 g))
    obtain ⟨h1, h2⟩ := basis_even hG c hc
    unfold oddm at ho
    rw [Nat.and_two_pow_sub_one_of_lt_two_pow h1] at ho
    rw [h2] at ho
    simp at ho
  obtain ⟨p, r1, _, _, _, r5, _⟩ := board_solved (l := l) (own := true) hb (by rw [Int.toNat_natCast]; exact e)
  have hin : inSet l.length p = true := by
    unfold pressAll at r5
    cases hi : inSet l.length p
    · rw [hi] at r5
      simp at r5
    · rfl
  obtain ⟨h0, h1, h2⟩ := inSet_lt hin
  refine ⟨p.toNat, h1, by rw [allR_solve, r1, h2, Int.toNat_natCast], by rw [← h2]; exact r5, fun i hi => ?_⟩
  have he : eff l true p.toNat = 2 ^ l.length - 1 := by
    unfold pressAll at r5
    have hz : inSet l.length 0 = true := inSet_of (n := l.length) (s := 0) hp
    rw [if_pos (by rw [(good_iff l).2 hG, hz]; rfl), if_pos hin] at r5
    injection r5 with r6
    simp only [xorI, Int.toNat_zero, Nat.zero_xor] at r6
    exact Int.ofNat_inj.1 r6
  have hx := sumX_par hS hn p.toNat hi
  have he' : sumX (fun i => (togg l true i).toNat) p.toNat l.length = 2 ^ l.length - 1 := he
  rw [he', Nat.testBit_two_pow_sub_one, decide_eq_true hi, oddm_comm] at hx
  unfold oddm at hx
  exact of_decide_eq_true hx.symm
end Go.Proofs.YtlohlngmagpepaaGreatM
