/- Plain laws: the reference's solver and the other know the same. No program in sight. -/
import Derived.Test.YtlohlngmagpepaaGreatM25
import Derived.Test.YtlohlngmagpepaaGreatM26
namespace Go.Proofs.YtlohlngmagpepaaGreatM
open Go.RowKit Go.Proofs.YtlohlngmagpepaaGreatW.PrintWords Go.Proofs.YtlohlngmagpepaaGreatW.PrintLast Go.Proofs.YtlohlngmagpepaaGreatW.PrintMore
set_option linter.unusedVariables false
set_option linter.unusedSimpArgs false
/-- The solver of a graph. -/
def svG (l : List Int) (own : Bool) : Sv := svOf (togs l own)
theorem soQuiet_sv {l : List Int} (hG : GoodG l) (own : Bool) : soQuietN l own = (svG l own).quiet := by
  have h1 := inv_graph hG own
  have h2 := soN_inv (l := l) own
  exact basis_ext h2.qb h1.qb fun x => (h2.qs x).trans (h1.qs x).symm
theorem svGo_image : ∀ (l : List Nat) (i : Nat) (s : Sv), (svGo l i s).image = puts s.image l
  | [], _, _ => rfl
  | e :: r, i, s => by
    have e1 : (svAdd s i e).image = put s.image e := by unfold svAdd; split <;> rfl
    rw [svGo, svGo_image r, e1]
    rfl
theorem image_sv (l : List Int) (own : Bool) : puts [] (togs l own) = (svG l own).image := (svGo_image _ 0 svNew).symm
def boardOk (l : List Int) (s : Int) : Bool := good l && inSet l.length s
/-- Presses that solve lights, if there are some. -/
def solveR (l : List Int) (own : Bool) (s : Int) : Int × Bool := if boardOk l s = true then (if (reach (svG l own).ps s.toNat).1 = 0 then ((red (svG l own).quiet (reach (svG l own).ps s.toNat).2 : Int), true) else (0, false)) else (0, false)
def canR (l : List Int) (own : Bool) (s : Int) : Bool × Bool := if boardOk l s = true then (decide ((reach (svG l own).ps s.toNat).1 = 0), true) else (false, false)
def countR (l : List Int) (own : Bool) (s : Int) : Int × Bool := if boardOk l s = true then (if (reach (svG l own).ps s.toNat).1 = 0 then (((2 ^ (svG l own).quiet.length : Nat) : Int), true) else (0, true)) else (0, false)
def witR (l : List Int) (own : Bool) (s : Int) : Int × Bool := if boardOk l s = true then (match (svG l own).quiet.find? fun b => oddm b s.toNat with
  | some b => ((b : Int), true)
  | none => (0, false)) else (0, false)
def isQuietR (l : List Int) (own : Bool) (s : Int) : Bool × Bool := if boardOk l s = true then (decide (eff l own s.toNat = 0), true) else (false, false)
theorem boardOk_of {l : List Int} {s : Int} (h : boardOk l s = true) : GoodG l ∧ inSet l.length s = true := by
  simp only [boardOk, Bool.and_eq_true] at h
  exact ⟨(good_iff l).1 h.1, h.2⟩
/-- What the reference finds is what the other finds. -/
theorem soSolve_sv {l : List Int} (hG : GoodG l) (own : Bool) {y : Nat} (hy : y < 2 ^ l.length) :
    (if red (soPairsN l own) (y <<< l.length) >>> l.length = 0 then ((red (soQuietN l own) (red (soPairsN l own) (y <<< l.length)) : Int), true) else ((0 : Int), false)) = if (reach (svG l own).ps y).1 = 0 then ((red (svG l own).quiet (reach (svG l own).ps y).2 : Int), true) else (0, false) := by
  have h1 := inv_graph hG own
  have h2 := soN_inv (l := l) own
  obtain ⟨g1, g2⟩ := solve_up h2 (sym_graph hG own).lt hy
  have g3 := reach_iff h1 y
  obtain ⟨g4, g5, _⟩ := reach_sum h1 y
  rw [soQuiet_sv hG own]
  by_cases e : (reach (svG l own).ps y).1 = 0
  · have e2 := g1.2 (g3.1 e)
    rw [if_pos e, if_pos e2]
    obtain ⟨g6, g7⟩ := g2 e2
    have e3 : (reach (svOf (togs l own)).ps y).1 = 0 := e
    rw [e3, Nat.zero_xor] at g5
    have hq : red (svG l own).quiet (red (soPairsN l own) (y <<< l.length)) = red (svG l own).quiet (reach (svG l own).ps y).2 := by
      refine (red_eq_iff h1.qb _ _).2 ((h1.qs _).2 ⟨Nat.xor_lt_two_pow g6 g4, ?_⟩)
      rw [sumX_xor, g7]
      show y ^^^ sumX _ (reach (svOf (togs l own)).ps y).2 _ = 0
      rw [g5, Nat.xor_self]
    rw [hq]
  · rw [if_neg e, if_neg (fun e2 => e (g3.2 (g1.1 e2)))]
theorem can_sv {l : List Int} (hG : GoodG l) (own : Bool) (y : Nat) : (red (svG l own).image y = 0) = ((reach (svG l own).ps y).1 = 0) := by
  have h1 := inv_graph hG own
  exact propext (((sp_iff h1.ib y).symm.trans (h1.is y)).trans (reach_iff h1 y).symm)
end Go.Proofs.YtlohlngmagpepaaGreatM
