/- Plain laws: what the solver finds is the least solution of the equations, which are as many as their rank. No program in sight. -/
import Derived.Test.YtlohlngmagpepaaGreatM35
namespace Go.Proofs.YtlohlngmagpepaaGreatM
open Go.RowKit Go.Proofs.YtlohlngmagpepaaGreatW.PrintWords Go.Proofs.YtlohlngmagpepaaGreatW.PrintLast Go.Proofs.YtlohlngmagpepaaGreatW.PrintMore
set_option linter.unusedVariables false
set_option linter.unusedSimpArgs false
/-- What the solver finds is a solution, and the least one. -/
theorem solve_least {f : Nat → Nat} {n : Nat} {s : Sv} (hI : Inv f n s) {y : Nat} (he : (reach s.ps y).1 = 0) :
    red s.quiet (reach s.ps y).2 < 2 ^ n ∧ sumX f (red s.quiet (reach s.ps y).2) n = y ∧ ∀ z, z < 2 ^ n → sumX f z n = y → red s.quiet (reach s.ps y).2 ≤ z := by
  obtain ⟨g1, g2, _⟩ := reach_sum hI y
  rw [he, Nat.zero_xor] at g2
  have hd := (hI.qs _).1 (red_sp s.quiet (reach s.ps y).2)
  have hp : red s.quiet (reach s.ps y).2 < 2 ^ n := by
    have := Nat.xor_lt_two_pow g1 hd.1
    rwa [← Nat.xor_assoc, Nat.xor_self, Nat.zero_xor] at this
  have hs : sumX f (red s.quiet (reach s.ps y).2) n = y := by
    have g3 := hd.2
    rw [sumX_xor] at g3
    rw [← xor_zero_iff.1 g3]
    exact g2
  refine ⟨hp, hs, fun z hz hzs => ?_⟩
  by_cases e : red s.quiet (reach s.ps y).2 = z
  · exact Nat.le_of_eq e
  · have hx0 : red s.quiet (reach s.ps y).2 ^^^ z ≠ 0 := fun h => e (xor_zero_iff.1 h)
    have hsp : Sp s.quiet (red s.quiet (reach s.ps y).2 ^^^ z) := (hI.qs _).2 ⟨Nat.xor_lt_two_pow hp hz, by rw [sumX_xor, hs, hzs, Nat.xor_self]⟩
    obtain ⟨c, hc, hcb⟩ := sp_top hI.qb hsp hx0
    have h1 := red_clean s.quiet (reach s.ps y).2 hI.qb c hc
    rw [hcb] at h1
    have h2 := bit_top hx0
    rw [Nat.testBit_xor, h1, Bool.false_xor] at h2
    refine Nat.le_of_lt (lt_of_bits _ _ _ h1 h2 fun j hj => ?_)
    have h3 : (red s.quiet (reach s.ps y).2 ^^^ z).testBit j = false := bit_over (by omega)
    rw [Nat.testBit_xor] at h3
    cases h4 : (red s.quiet (reach s.ps y).2).testBit j <;> cases h5 : z.testBit j <;> rw [h4, h5] at h3 <;> simp_all
/-- The equations of the buttons. -/
def eqsOf (f : Nat → Nat) (n y : Nat) : List PEq := (List.range n).map fun i => (f i, if y.testBit i = true then 1 else 0)
theorem eqsOf_ok {f : Nat → Nat} {n : Nat} (h : ∀ i, i < n → f i < 2 ^ n) (y : Nat) : PEqs n (eqsOf f n y) := fun e he => by
  obtain ⟨i, hi, rfl⟩ := List.mem_map.1 he
  exact ⟨h i (List.mem_range.1 hi), by simp only; split <;> decide⟩
theorem eqsOf_sol {f : Nat → Nat} {n : Nat} (h : SymF f n) (hn : n ≤ 63) {y x : Nat} (hy : y < 2 ^ n) : (∀ e ∈ eqsOf f n y, oddm e.1 x = decide (e.2 = 1)) ↔ sumX f x n = y := by
  have hb : ∀ i, i < n → ((oddm (f i) x = decide ((if y.testBit i = true then 1 else 0) = 1)) ↔ (sumX f x n).testBit i = y.testBit i) := fun i hi => by
    rw [sumX_par h hn x hi, oddm_comm]
    cases y.testBit i <;> simp
  constructor
  · intro h1
    apply Nat.eq_of_testBit_eq
    intro i
    by_cases hi : i < n
    · exact (hb i hi).1 (h1 _ (List.mem_map.2 ⟨i, List.mem_range.2 hi, rfl⟩))
    · have hle : (2 : Nat) ^ n ≤ 2 ^ i := Nat.pow_le_pow_right (by decide) (by omega)
      rw [Nat.testBit_lt_two_pow (Nat.lt_of_lt_of_le (sumX_lt f x n n h.lt) hle), Nat.testBit_lt_two_pow (Nat.lt_of_lt_of_le hy hle)]
  · rintro rfl e he
    obtain ⟨i, hi, rfl⟩ := List.mem_map.1 he
    exact (hb i (List.mem_range.1 hi)).2 rfl
/-- The reference's equations have the solver's solution as their least one, and as many rows as effects have a basis. -/
theorem pa_all {f : Nat → Nat} {n : Nat} (h : SymF f n) (hn : n ≤ 63) {s : Sv} (hI : Inv f n s) {y : Nat} (hy : y < 2 ^ n) (he : (reach s.ps y).1 = 0) {l : List Nat} (hl : l = (List.range n).map f) (him : s.image = puts [] l) :
    (∀ e ∈ eqsOf f n y, oddm e.1 (red s.quiet (reach s.ps y).2) = decide (e.2 = 1)) ∧ red s.quiet (reach s.ps y).2 < 2 ^ n ∧ PSys n (paAll [] (eqsOf f n y)) ∧ (paAll [] (eqsOf f n y)).length + s.quiet.length = n ∧ PSys n (pins (paAll [] (eqsOf f n y)) n) ∧ ∀ i, i < n → (paPut (pins (paAll [] (eqsOf f n y)) n) (2 ^ i, 0)).2 = !(red s.quiet (reach s.ps y).2).testBit i := by
  obtain ⟨hp, hs, hmin⟩ := solve_least hI he
  have hq := eqsOf_ok h.lt y
  have hnil : PSol [] (red s.quiet (reach s.ps y).2) := fun e he => by simp at he
  have hsol := (eqsOf_sol h hn (x := red s.quiet (reach s.ps y).2) hy).2 hs
  obtain ⟨h1, h2⟩ := all_sol hn hp (eqsOf f n y) [] (psys_nil n) hq hnil hsol
  have hlen := all_len hn (eqsOf f n y) [] [] (psys_nil n) hq basis_nil (fun x => Iff.rfl) rfl
  have hmap : (eqsOf f n y).map Prod.fst = l := by
    rw [hl]
    unfold eqsOf
    rw [List.map_map]
    rfl
  rw [hmap, ← him] at hlen
  have hall : ∀ x, x < 2 ^ n → (PSol (paAll [] (eqsOf f n y)) x ↔ sumX f x n = y) := fun x hx => by
    rw [h2 x hx, eqsOf_sol h hn hy]
    exact ⟨fun g => g.2, fun g => ⟨fun e he => by simp at he, g⟩⟩
  obtain ⟨h3, h4⟩ := pins_sol hn hp (s0 := paAll [] (eqsOf f n y)) (fun z hz hz2 => hmin z hz ((hall z hz).1 hz2)) n _ (Nat.le_refl n) h1 (fun x hx => ⟨fun g => ⟨g, fun j hj => by
    have hle : (2 : Nat) ^ n ≤ 2 ^ j := Nat.pow_le_pow_right (by decide) hj
    rw [Nat.testBit_lt_two_pow (Nat.lt_of_lt_of_le hx hle), Nat.testBit_lt_two_pow (Nat.lt_of_lt_of_le hp hle)]⟩, fun g => g.1⟩) ((hall _ hp).2 hs)
  refine ⟨hsol, hp, h1, ?_, h3, fun i hi => pins_bit hn h3 hp h4 hi⟩
  have h5 := hI.rq
  have h6 := hI.ri
  omega
end Go.Proofs.YtlohlngmagpepaaGreatM
