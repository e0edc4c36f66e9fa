/- Plain laws on quiet sets: the basis, all sums, what is left of effects. No program in sight. -/
import Derived.Test.YtjoeakahfomckaaGreatM32
namespace Go.Proofs.YtjoeakahfomckaaGreatM
open Go.RowKit Go.Proofs.YtjoeakahfomckaaGreatW.PrintWords Go.Proofs.YtjoeakahfomckaaGreatW.PrintLast Go.Proofs.YtjoeakahfomckaaGreatW.PrintMore
set_option linter.unusedVariables false
set_option linter.unusedSimpArgs false
theorem sp_quiet {l : List Int} (hG : GoodG l) (own : Bool) {x : Nat} (hx : Sp (svG l own).quiet x) : x < 2 ^ l.length ∧ eff l own x = 0 := ((inv_graph hG own).qs x).1 hx
theorem quiet_press {l : List Int} (hG : GoodG l) (own : Bool) : ∀ b ∈ (svG l own).quiet, pressAll l own 0 (b : Int) = (0, true) := fun b hb => by
  obtain ⟨h1, h2⟩ := sp_quiet hG own (Sp.one hb)
  have hz : inSet l.length 0 = true := inSet_of (n := l.length) (s := 0) (Nat.two_pow_pos _)
  unfold pressAll
  rw [if_pos (by rw [(good_iff l).2 hG, hz]; rfl), if_pos (inSet_of h1), Int.toNat_natCast, h2]
  rfl
theorem sums_quiet {l : List Int} (hG : GoodG l) (own : Bool) : ∀ x ∈ sums (svG l own).quiet, isQuietR l own (x : Int) = (true, true) := fun x hx => by
  obtain ⟨h1, h2⟩ := sp_quiet hG own ((sums_all (quiet_small hG own).2.2).sp x hx)
  unfold isQuietR boardOk
  rw [if_pos (by rw [(good_iff l).2 hG, inSet_of h1]; rfl), Int.toNat_natCast, h2]
  rfl
theorem toggles_red {l : List Int} (hG : GoodG l) (own : Bool) {i : Nat} (hi : i < l.length) : redSet (ints (svG l own).image) (togg l own i) = (0, true) := by
  obtain ⟨h1, h2, h3⟩ := image_small hG own
  have hb := togg_bounds l own hG i hi
  have hc := pow_cast l.length
  have h16 : (2 : Nat) ^ l.length ≤ 2 ^ 16 := Nat.pow_le_pow_right (by decide) hG.top
  unfold redSet
  rw [if_pos (by rw [isBas_ints h3 h1, decide_eq_true (by omega), decide_eq_true (by omega)]; rfl), ints_toNat]
  have hE : Eff (fun j => (togg l own j).toNat) l.length (togg l own i).toNat := ⟨2 ^ i, Nat.pow_lt_pow_right (by decide) hi, by rw [sumX_pow, if_pos hi]⟩
  have := (sp_iff h3 _).1 (((inv_graph hG own).is _).2 hE)
  rw [this]
  rfl
theorem redSet_clean {l : List Int} {s x : Int} (h : redSet l s = (x, true)) : ∃ (q : List Nat) (y : Nat), l = ints q ∧ x = (y : Int) ∧ y < 65536 ∧ q.length ≤ 16 ∧ ∀ b ∈ q, b ≠ 0 ∧ b < 65536 ∧ (y >>> (blen b - 1)) % 2 = 0 := by
  unfold redSet at h
  split at h
  · next e =>
    rw [Bool.and_eq_true, Bool.and_eq_true, decide_eq_true_eq, decide_eq_true_eq] at e
    obtain ⟨q, rfl, hB, hq, hl⟩ := isBas_of e.1
    injection h with h1 _
    rw [ints_toNat] at h1
    refine ⟨q, _, rfl, h1.symm, red_lt (n := 16) q _ (fun b hb => hq b hb) (by omega), hl, fun b hb => ⟨hB.pos b hb, hq b hb, ?_⟩⟩
    have := red_clean q s.toNat hB b hb
    rw [Nat.testBit_eq_decide_div_mod_eq] at this
    have := of_decide_eq_false this
    rw [Nat.shiftRight_eq_div_pow]
    omega
  · cases h
theorem quiet_clean {q : List Nat} (hq : Basis q) {i j : Nat} (hi : i < q.length) (hj : j < q.length) (hne : i ≠ j) : (q[i] >>> (blen q[j] - 1)) % 2 = 0 := by
  have hup := List.pairwise_iff_getElem.1 hq.up
  have hb : blen q[j] ≠ blen q[i] := by
    rcases Nat.lt_or_gt_of_ne hne with h | h
    · have := hup i j hi hj h; omega
    · have := hup j i hj hi h; omega
  have := basis_clean hq q[i] (List.getElem_mem hi) q[j] (List.getElem_mem hj) hb
  rw [Nat.testBit_eq_decide_div_mod_eq] at this
  have := of_decide_eq_false this
  rw [Nat.shiftRight_eq_div_pow]
  omega
theorem quiet_up {q : List Nat} (hq : Basis q) {j : Nat} (hj : j < q.length) (h0 : 0 < j) : blen (q[j - 1]'(by omega)) - 1 < blen q[j] - 1 := by
  have hup := List.pairwise_iff_getElem.1 hq.up
  have h1 := hup (j - 1) j (by omega) hj (by omega)
  have h2 := blen_ne (hq.pos _ (List.getElem_mem (show j - 1 < q.length by omega)))
  omega
theorem shr_form {x tb : Nat} (h : tb ≤ 64) (hz : (x >>> tb) % 2 = 0) : ((((x : Int) / 2 ^ min tb 64).tmod 2) == 1) = false := by
  have e : (x : Int) / 2 ^ tb = ((x >>> tb : Nat) : Int) := by
    rw [Nat.shiftRight_eq_div_pow, ← pow_cast]
    exact (Int.natCast_ediv x (2 ^ tb)).symm
  rw [Nat.min_eq_left h, e]
  show ((((x >>> tb) % 2 : Nat) : Int) == 1) = false
  rw [hz]
  rfl
end Go.Proofs.YtjoeakahfomckaaGreatM
