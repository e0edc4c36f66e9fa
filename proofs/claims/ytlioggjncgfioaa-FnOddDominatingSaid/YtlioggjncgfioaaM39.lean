/- Plain laws on odd dominating sets, how many there are, and on the parts as a list. No program in sight. -/
import Derived.Test.YtlioggjncgfioaaM37
import Derived.Test.YtlioggjncgfioaaM38
import Derived.Test.YtlioggjncgfioaaM30
namespace Go.Proofs.YtlioggjncgfioaaM
open Go.RowKit Go.Proofs.YtlioggjncgfioaaW.PrintWords Go.Proofs.YtlioggjncgfioaaW.PrintLast Go.Proofs.YtlioggjncgfioaaW.PrintMore
set_option linter.unusedVariables false
set_option linter.unusedSimpArgs false
/-- How many odd dominating sets there are. -/
def oddCountR (l : List Int) : Int × Bool := if good l = true then (((2 ^ (svG l true).quiet.length : Nat) : Int), true) else (0, false)
/-- So many sets light all lights with own ones. -/
theorem count_own {l : List Int} (hG : GoodG l) : countR l true ((2 ^ l.length - 1 : Nat) : Int) = (((2 ^ (svG l true).quiet.length : Nat) : Int), true) := by
  obtain ⟨p, _, h1, _, _⟩ := all_own hG
  have hp := Nat.two_pow_pos l.length
  have hc := pow_cast l.length
  unfold allR at h1
  rw [if_pos ((good_iff l).2 hG)] at h1
  have hb : boardOk l ((2 ^ l.length - 1 : Nat) : Int) = true := by
    unfold boardOk
    rw [(good_iff l).2 hG]
    simp [inSet]
    omega
  unfold countR
  rw [if_pos hb, Int.toNat_natCast]
  split at h1
  · next h => rw [if_pos h]
  · injection h1 with _ e
    cases e
theorem orAll_take {ps : List Nat} {k : Nat} (h : k < ps.length) : orAll (ps.take (k + 1)) = orAll (ps.take k) ||| ps[k] := by
  rw [List.take_succ_eq_append_getElem h, orAll_snoc]
theorem orAll_lt {n : Nat} {ps : List Nat} (h : ∀ x ∈ ps, x < 2 ^ n) : orAll ps < 2 ^ n := by
  have key : ∀ (l : List Nat) (a : Nat), a < 2 ^ n → (∀ x ∈ l, x < 2 ^ n) → l.foldl (· ||| ·) a < 2 ^ n := by
    intro l
    induction l with
    | nil => intro a ha _; exact ha
    | cons x l ih => intro a ha hl; exact ih (a ||| x) (Nat.or_lt_two_pow ha (hl x List.mem_cons_self)) (fun y hy => hl y (List.mem_cons_of_mem _ hy))
  exact key ps 0 (Nat.two_pow_pos n) h
theorem partsR_len {l : List Int} {r : List Int} {ok : Bool} (hr : partsR l = (r, ok)) : r.length ≤ 1048576 := by
  unfold partsR at hr
  split at hr
  · next h =>
    have hG := (good_iff l).1 h
    have h1 := (parts_inv (nbs_lt hG) (nbs_sym hG) l.length (Nat.le_refl _)).len
    have h2 := hG.top
    injection hr with e _
    rw [← e, ints_length]
    omega
  · injection hr with e _
    rw [← e]
    simp
/-- The parts of a graph, as the law tries them. -/
theorem parts_law {l : List Int} (hG : GoodG l) : ∃ ps : List Nat, partsR l = (ints ps, true) ∧ ps.length ≤ 16 ∧ orAll ps = 2 ^ l.length - 1 ∧ ∀ k (h : k < ps.length), orAll (ps.take k) &&& ps[k] = 0 ∧ orAll (ps.take k) < 2 ^ l.length ∧ ps[k] ≠ 0 ∧ ps[k] < 2 ^ l.length ∧ ClosedS (nbs l) l.length ps[k] := by
  have hI := parts_inv (nbs_lt hG) (nbs_sym hG) l.length (Nat.le_refl _)
  refine ⟨(partsUp (nbs l) l.length l.length).1, ?_, ?_, parts_all (nbs_lt hG) (nbs_sym hG), fun k h => ?_⟩
  · unfold partsR
    rw [if_pos ((good_iff l).2 hG)]
  · have := hI.len
    have := hG.top
    omega
  · obtain ⟨h1, h2, h3, h4⟩ := hI.each k h
    refine ⟨h1, orAll_lt fun x hx => ?_, h2, h3, h4⟩
    obtain ⟨j, hj, rfl⟩ := List.mem_iff_getElem.1 (List.mem_of_mem_take hx)
    exact (hI.each j hj).2.2.1
end Go.Proofs.YtlioggjncgfioaaM
