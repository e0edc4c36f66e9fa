/- Plain laws on boards: solved, or refused by a quiet set that meets them oddly. No program in sight. -/
import Derived.Test.YtlohlngmagpepaaGreatM27
namespace Go.Proofs.YtlohlngmagpepaaGreatM
open Go.RowKit Go.Proofs.YtlohlngmagpepaaGreatW.PrintWords Go.Proofs.YtlohlngmagpepaaGreatW.PrintLast Go.Proofs.YtlohlngmagpepaaGreatW.PrintMore
set_option linter.unusedVariables false
set_option linter.unusedSimpArgs false
theorem board_solved {l : List Int} {own : Bool} {s : Int} (hb : boardOk l s = true) (e : (reach (svG l own).ps s.toNat).1 = 0) :
    ∃ p : Int, solveR l own s = (p, true) ∧ canR l own s = (true, true) ∧ countR l own s = (((2 ^ (svG l own).quiet.length : Nat) : Int), true) ∧ witR l own s = (0, false) ∧ pressAll l own 0 p = (s, true) ∧ pressAll l own s p = (0, true) := by
  obtain ⟨hG, hs⟩ := boardOk_of hb
  obtain ⟨h0, h1, h2⟩ := inSet_lt hs
  have hI := inv_graph hG own
  have hS := sym_graph hG own
  have hn : l.length ≤ 63 := by have := hG.top; omega
  have hE := (reach_iff hI s.toNat).1 e
  obtain ⟨g1, g2, _⟩ := reach_sum hI s.toNat
  have e' : (reach (svOf (togs l own)).ps s.toNat).1 = 0 := e
  rw [e', Nat.zero_xor] at g2
  -- what is left of the presses has the same effect
  have hd := (hI.qs _).1 (red_sp (svG l own).quiet (reach (svG l own).ps s.toNat).2)
  have hp : red (svG l own).quiet (reach (svG l own).ps s.toNat).2 < 2 ^ l.length := by
    have := Nat.xor_lt_two_pow g1 hd.1
    rwa [show (reach (svOf (togs l own)).ps s.toNat).2 = (reach (svG l own).ps s.toNat).2 from rfl, ← Nat.xor_assoc, Nat.xor_self, Nat.zero_xor] at this
  have he : eff l own (red (svG l own).quiet (reach (svG l own).ps s.toNat).2) = s.toNat := by
    have g3 := hd.2
    rw [sumX_xor] at g3
    have g4 := xor_zero_iff.1 g3
    unfold eff
    rw [← g4]
    exact g2
  have hz : inSet l.length 0 = true := inSet_of (n := l.length) (s := 0) (Nat.two_pow_pos _)
  have hg := (good_iff l).2 hG
  refine ⟨_, by unfold solveR; rw [if_pos hb, if_pos e], by unfold canR; rw [if_pos hb, decide_eq_true e], by unfold countR; rw [if_pos hb, if_pos e], ?_, ?_, ?_⟩
  · have hnone : ((svG l own).quiet.find? fun b => oddm b s.toNat) = none := List.find?_eq_none.2 fun b hbm => by
      rw [met hS hn hI hE b hbm]
      decide
    unfold witR
    rw [if_pos hb, hnone]
  · unfold pressAll
    rw [if_pos (by rw [hg, hz]; rfl), if_pos (inSet_of hp), Int.toNat_natCast, he]
    simp [xorI]
    omega
  · unfold pressAll
    rw [if_pos (by rw [hg, hs]; rfl), if_pos (inSet_of hp), Int.toNat_natCast, he]
    unfold xorI
    rw [Int.toNat_natCast, Nat.xor_self]
    rfl
theorem board_refused {l : List Int} {own : Bool} {s : Int} (hb : boardOk l s = true) (e : (reach (svG l own).ps s.toNat).1 ≠ 0) :
    ∃ b : Nat, solveR l own s = (0, false) ∧ canR l own s = (false, true) ∧ countR l own s = (0, true) ∧ witR l own s = ((b : Int), true) ∧ isQuietR l own (b : Int) = (true, true) ∧ b < 2 ^ l.length ∧ pop (b &&& s.toNat) % 2 = 1 := by
  obtain ⟨hG, hs⟩ := boardOk_of hb
  obtain ⟨h0, h1, h2⟩ := inSet_lt hs
  have hI := inv_graph hG own
  have hS := sym_graph hG own
  have hn : l.length ≤ 63 := by have := hG.top; omega
  obtain ⟨c, hc, ho⟩ := refused hS hn hI h1 (fun g => e ((reach_iff hI s.toNat).2 g))
  cases hf : ((svG l own).quiet.find? fun b => oddm b s.toNat) with
  | none =>
    have := List.find?_eq_none.1 hf c hc
    rw [ho] at this
    exact absurd rfl this
  | some b =>
    have hbm := List.mem_of_find?_eq_some hf
    have hbo : oddm b s.toNat = true := by simpa using List.find?_some hf
    obtain ⟨g1, g2⟩ := (hI.qs b).1 (Sp.one hbm)
    have hbok : boardOk l (b : Int) = true := by
      unfold boardOk
      rw [(good_iff l).2 hG, inSet_of g1]
      rfl
    refine ⟨b, by unfold solveR; rw [if_pos hb, if_neg e], by unfold canR; rw [if_pos hb, decide_eq_false e], by unfold countR; rw [if_pos hb, if_neg e], by unfold witR; rw [if_pos hb, hf], ?_, g1, by unfold oddm at hbo; simpa using hbo⟩
    unfold isQuietR
    rw [if_pos hbok, Int.toNat_natCast]
    have : eff l own b = 0 := g2
    rw [decide_eq_true this]
end Go.Proofs.YtlohlngmagpepaaGreatM
