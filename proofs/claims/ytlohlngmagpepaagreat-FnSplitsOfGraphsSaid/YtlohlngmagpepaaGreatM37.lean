/- Plain laws: what the reference finds for all lights of a graph with own lights. No program in sight. -/
import Derived.Test.YtlohlngmagpepaaGreatM30
import Derived.Test.YtlohlngmagpepaaGreatM36
namespace Go.Proofs.YtlohlngmagpepaaGreatM
open Go.RowKit Go.Proofs.YtlohlngmagpepaaGreatW.PrintWords Go.Proofs.YtlohlngmagpepaaGreatW.PrintLast Go.Proofs.YtlohlngmagpepaaGreatW.PrintMore
set_option linter.unusedVariables false
set_option linter.unusedSimpArgs false
/-- What the reference finds for the equations of the rows l and the wanted set y: the least solution p, and q free buttons. -/
structure PaOk (n : Nat) (l : List Nat) (y p q : Nat) : Prop where
  n16 : n ≤ 16
  len : l.length = n
  yl : y < 2 ^ n
  pl : p < 2 ^ n
  eqs : PEqs n (eqsOf (fun i => l.getD i 0) n y)
  sol : ∀ e ∈ eqsOf (fun i => l.getD i 0) n y, oddm e.1 p = decide (e.2 = 1)
  free : (paAll [] (eqsOf (fun i => l.getD i 0) n y)).length + q = n
  all : PSys n (pins (paAll [] (eqsOf (fun i => l.getD i 0) n y)) n)
  bits : ∀ i, i < n → (paPut (pins (paAll [] (eqsOf (fun i => l.getD i 0) n y)) n) (2 ^ i, 0)).2 = !p.testBit i
theorem eqsOf_congr {f g : Nat → Nat} {n : Nat} (h : ∀ i, i < n → f i = g i) (y : Nat) : eqsOf f n y = eqsOf g n y := by
  unfold eqsOf
  exact List.map_congr_left fun i hi => by rw [h i (List.mem_range.1 hi)]
theorem togs_getD {l : List Int} (own : Bool) {i : Nat} (hi : i < l.length) : (togs l own).getD i 0 = (togg l own i).toNat := by
  have h : i < (togs l own).length := by unfold togs toggles; simpa using hi
  rw [List.getD_eq_getElem?_getD, List.getElem?_eq_getElem h, Option.getD_some]
  unfold togs toggles
  simp
theorem togs_range {l : List Int} (hG : GoodG l) (own : Bool) : togs l own = (List.range l.length).map fun i => (togg l own i).toNat := by
  have hl := (togs_ints l own hG).2.1
  refine List.ext_getElem (by simp [hl]) fun i h1 h2 => ?_
  have hi : i < l.length := by simpa [hl] using h1
  have := togs_getD own hi (l := l)
  rw [List.getD_eq_getElem?_getD, List.getElem?_eq_getElem h1, Option.getD_some] at this
  rw [this]
  simp
/-- The reference's equations of a board that can be solved. -/
theorem pa_board {l : List Int} (hG : GoodG l) (own : Bool) {y : Nat} (hy : y < 2 ^ l.length) (he : (reach (svG l own).ps y).1 = 0) : PaOk l.length (togs l own) y (red (svG l own).quiet (reach (svG l own).ps y).2) (svG l own).quiet.length := by
  have hS := sym_graph hG own
  have hI := inv_graph hG own
  have hn : l.length ≤ 63 := by have := hG.top; omega
  have hl := (togs_ints l own hG).2.1
  obtain ⟨h1, h2, _, h4, h5, h6⟩ := pa_all hS hn hI hy he (togs_range hG own) (image_sv l own).symm
  have ee : eqsOf (fun i => (togs l own).getD i 0) l.length y = eqsOf (fun i => (togg l own i).toNat) l.length y := eqsOf_congr (fun i hi => togs_getD own hi) y
  exact ⟨hG.top, hl, hy, h2, by rw [ee]; exact eqsOf_ok hS.lt y, by rw [ee]; exact h1, by rw [ee]; exact h4, by rw [ee]; exact h5, by rw [ee]; exact h6⟩
theorem pa_own {l : List Int} (hG : GoodG l) : ∃ p : Nat, allR l true = ((p : Int), true) ∧ PaOk l.length (togs l true) (2 ^ l.length - 1) p (svG l true).quiet.length := by
  obtain ⟨p, _, h1, _, _⟩ := all_own hG
  have hp := Nat.two_pow_pos l.length
  have h2 := h1
  unfold allR at h2
  rw [if_pos ((good_iff l).2 hG)] at h2
  split at h2
  · next e =>
    injection h2 with h3 _
    have h4 := pa_board hG true (y := 2 ^ l.length - 1) (by omega) e
    rw [Int.ofNat_inj.1 h3] at h4
    exact ⟨p, h1, h4⟩
  · injection h2 with _ h3
    cases h3
end Go.Proofs.YtlohlngmagpepaaGreatM
