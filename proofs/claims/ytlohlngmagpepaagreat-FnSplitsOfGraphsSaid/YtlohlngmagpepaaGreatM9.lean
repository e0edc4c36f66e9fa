/- Plain laws on the two moves of lit buttons: a lit press, a reflection. No program in sight. -/
import Derived.Test.YtlohlngmagpepaaGreatM3
import Derived.Test.YtlohlngmagpepaaGreatM7
import Derived.Test.YtlohlngmagpepaaGreatM17
namespace Go.Proofs.YtlohlngmagpepaaGreatM
open Go.RowKit Go.Proofs.YtlohlngmagpepaaGreatW.PrintWords Go.Proofs.YtlohlngmagpepaaGreatW.PrintLast Go.Proofs.YtlohlngmagpepaaGreatW.PrintMore
set_option linter.unusedVariables false
set_option linter.unusedSimpArgs false
/-- A lit press, or a reflection. -/
def moveOf (l : List Int) (r : Bool) (s i : Nat) : Nat := if r = true then (reflOne l (s : Int) (i : Int)).toNat else if s.testBit i = true then s ^^^ (rd l (i : Int)).toNat else s
theorem moveOf_lt (l : List Int) (hG : GoodG l) (r : Bool) (s i : Nat) (hs : s < 2 ^ l.length) (hi : i < l.length) : moveOf l r s i < 2 ^ l.length := by
  have hc := pow_cast l.length
  unfold moveOf
  split
  · have := reflOne_bounds l (s : Int) (i : Int) (by omega) (by omega) (by omega) (by omega)
    omega
  · split
    · have hx := hG.sets (rd l (i : Int)) (rd_mem l _ (by omega) (by omega))
      exact Nat.xor_lt_two_pow hs (by omega)
    · exact hs
theorem ints_contains (l : List Nat) (t : Nat) : (ints l).contains (t : Int) = l.contains t := by
  rw [Bool.eq_iff_iff, List.contains_iff_mem, List.contains_iff_mem]
  unfold ints
  rw [List.mem_map]
  exact ⟨fun ⟨x, hx, e⟩ => by rw [show t = x by omega]; exact hx, fun h => ⟨t, h, rfl⟩⟩
theorem wf_small {x : Int} (h0 : 0 ≤ x) (h1 : x < 2 ^ 62) : (Lit.int .i64 x).wf = true := by
  simp [Lit.wf, IntKind.min, IntKind.max, IntKind.bits, IntKind.signed]
  omega
theorem rising_length (N : Nat) (out : List Nat) : (rising N out).length ≤ N := by
  have := List.length_filter_le (fun x => out.contains x) (List.range N)
  unfold rising
  simpa using this
/-- The orbit of a set. -/
def orbitOf (l : List Int) (r : Bool) (s : Nat) : List Nat := rising (2 ^ l.length) (orbL (moveOf l r) l.length s)
theorem orbitOf_length (l : List Int) (r : Bool) (s : Nat) : (orbitOf l r s).length ≤ 2 ^ l.length := rising_length _ _
theorem pow9 {n : Nat} (h : n ≤ 9) : 2 ^ n ≤ 512 := by
  have : (2 : Nat) ^ n ≤ 2 ^ 9 := Nat.pow_le_pow_right (by decide) h
  omega
end Go.Proofs.YtlohlngmagpepaaGreatM
