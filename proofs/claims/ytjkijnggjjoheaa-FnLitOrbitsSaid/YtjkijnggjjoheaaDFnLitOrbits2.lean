/- What is drawn for FnLitOrbits: within bounds, whatever it is. -/
import Derived.Test.YtjkijnggjjoheaaPFnLitOrbitsx
import Derived.Test.YtjkijnggjjoheaaQFnLitOrbits0
import Derived.Test.YtjkijnggjjoheaaQFnLitOrbits1
import Derived.Test.YtjkijnggjjoheaaM1
import Derived.Test.YtjkijnggjjoheaaM18
import Derived.WalkKit
import Derived.RowKit3
import Derived.Deep.QuietTactic
import Derived.BigQuiet
import Derived.Deep.DeepCutAuto
import Derived.Deep.CutBlock
import Derived.Deep.LoopGhost
import Derived.Outline
import Derived.Deep.DeepFit
import Derived.Test.YtjkijnggjjoheaaDFnLitOrbits0
import Derived.Test.YtjkijnggjjoheaaDFnLitOrbits1
namespace Go.Proofs.Ytjkijnggjjoheaa.Draw
open Go.RowKit Go.Proofs.Ytjkijnggjjoheaa.PFnLitOrbits Go.Proofs.YtjkijnggjjoheaaW.PrintWords Go.Proofs.YtjkijnggjjoheaaW.PrintLast Go.Proofs.YtjkijnggjjoheaaW.PrintMore Go.Proofs.YtjkijnggjjoheaaM Go.Proofs.Ytjkijnggjjoheaa.Pure
attribute [local go_sem] max2_int min2_int max_two min_two max_three min_three max_four min_four
set_option linter.unusedVariables false
set_option linter.unusedSimpArgs false
variable {w0 w w1 W : World} {g : Nat} {a : Int}
/-! What the laws' own helpers return. -/
theorem Rd.dn {W : World} {v : Value} {l : List Int} (h : Rd W v l) (n : Nat) : Rd (W.drewN n) v l := h.below (pw_below_drewN (Below.refl _ _) n)
theorem hSame_sem {W : World} {v v2 : Value} {l l2 : List Int} (h : Rd W v l) (h2 : Rd W v2 l2) (b : Bool) (hb : decide (l = l2) = b) : Calls Try.prog 13 #[v, v2] W fun e W' => e = .returned (.bool b) ∧ Below W.heap.size W W' := by
  obtain ⟨A, c, rfl, hc, hC, hl⟩ := h
  obtain ⟨A2, c2, rfl, hc2, hC2, hl2⟩ := h2
  obtain ⟨K, hK⟩ := ev_get (laws_hSame.ev l l2 (by omega))
  exact (laws_hSame.calls K A c l A2 c2 l2 b W hC hc hC2 hc2 ((hK K (Nat.le_refl _)).trans (by rw [hb]))).mono fun _ _ ⟨he, hn⟩ => ⟨he, Drawn0.below hn⟩
theorem hSum_sem {W : World} {v : Value} {l : List Nat} (h : Rd W v (ints l)) (hs : l.sum < 4611686018427387904) : Calls Try.prog 14 #[v] W fun e W' => e = .returned (.int .i64 (l.sum : Int)) ∧ Below W.heap.size W W' := by
  obtain ⟨A, c, rfl, hc, hC, hl⟩ := h
  obtain ⟨K, hK⟩ := ev_get (laws_hSum.ev l (by rw [ints_length] at hl; omega) hs)
  exact (laws_hSum.calls K A c (ints l) _ W hC hc (hK K (Nat.le_refl _))).mono fun _ _ ⟨he, hn⟩ => ⟨he, Drawn0.below hn⟩
theorem hSum_q {W : World} {v : Value} {l : List Nat} (h : Rd W v (ints l)) (hs : l.sum < 4611686018427387904) (k : Nat) : Calls Try.prog 14 #[v] (W.drewN k) fun e W' => e = .returned (.int .i64 (l.sum : Int)) ∧ ∃ n, W' = W.drewN n := by
  obtain ⟨A, c, rfl, hc, hC, hl⟩ := h.dn k
  obtain ⟨K, hK⟩ := ev_get (laws_hSum.ev l (by rw [ints_length] at hl; omega) hs)
  exact (laws_hSum.calls K A c (ints l) _ (W.drewN k) hC hc (hK K (Nat.le_refl _))).mono fun _ _ ⟨he, n, hn⟩ => ⟨he, k + n, by rw [hn, World.drewN_drewN]⟩
theorem hSize_sem {W : World} (s n : Nat) (hn : n ≤ 60) (h : s < 2 ^ n) : Calls Try.prog 20 #[.int .i64 (s : Int)] W fun e W' => e = .returned (.int .i64 (pop s : Int)) ∧ Below W.heap.size W W' := by
  obtain ⟨K, hK⟩ := ev_get (laws_hSize.ev s n hn h)
  exact (laws_hSize.calls K _ _ W (hK K (Nat.le_refl _))).mono fun _ _ ⟨he, hn⟩ => ⟨he, Drawn0.below hn⟩
theorem hHas_sem {W : World} {v : Value} {l : List Int} (h : Rd W v l) (x : Int) (b : Bool) (hb : l.contains x = b) : Calls Try.prog 21 #[v, .int .i64 x] W fun e W' => e = .returned (.bool b) ∧ Below W.heap.size W W' := by
  obtain ⟨A, c, rfl, hc, hC, hl⟩ := h
  obtain ⟨K, hK⟩ := ev_get (laws_hHas.ev l x (by omega))
  exact (laws_hHas.calls K A c l x b W hC hc ((hK K (Nat.le_refl _)).trans (by rw [hb]))).mono fun _ _ ⟨he, hn⟩ => ⟨he, Drawn0.below hn⟩
/-! What orbits return. -/
def litOk (l : List Int) : Bool := good l && decide (l.length ≤ 9)
def setOk (l : List Int) (s : Int) : Bool := good l && decide (l.length ≤ 9) && inSet l.length s
theorem litOk_of {l : List Int} (h : litOk l = true) : GoodG l ∧ l.length ≤ 9 := by
  simp only [litOk, Bool.and_eq_true, decide_eq_true_eq] at h
  exact ⟨(good_iff l).1 h.1, h.2⟩
theorem setOk_of {l : List Int} {s : Int} (h : setOk l s = true) : GoodG l ∧ l.length ≤ 9 ∧ inSet l.length s = true := by
  simp only [setOk, Bool.and_eq_true, decide_eq_true_eq] at h
  exact ⟨(good_iff l).1 h.1.1, h.1.2, h.2⟩
theorem setOk_lit {l : List Int} {s : Int} (h : setOk l s = true) : litOk l = true := by
  simp only [setOk, Bool.and_eq_true] at h
  simp only [litOk, Bool.and_eq_true]
  exact h.1
theorem pow512 {n : Nat} (h : n ≤ 9) : 2 ^ n ≤ 512 := Nat.pow_le_pow_right (n := 2) (by decide) h
theorem sizes_small {l : List Int} {b : Bool} (hb : litOk l = b) : (if b = true then ints (sortedSizes l) else []).length ≤ 1048576 := by
  cases b
  · simp
  · have h := sortedSizes_length l
    have h2 := pow512 (litOk_of hb).2
    simp only [if_true, ints_length]
    omega
theorem starts_small {l : List Int} {b : Bool} (hb : litOk l = b) : (if b = true then ints (starts l) else []).length ≤ 1048576 := by
  cases b
  · simp
  · have h := starts_length l
    have h2 := pow512 (litOk_of hb).2
    simp only [if_true, ints_length]
    omega
theorem orbit_small {l : List Int} {s : Int} {b : Bool} (hb : setOk l s = b) : (if b = true then ints (orbitOf l false s.toNat) else []).length ≤ 1048576 := by
  cases b
  · simp
  · have h := orbitOf_length l false s.toNat
    have h2 := pow512 (setOk_of hb).2.1
    simp only [if_true, ints_length]
    omega
theorem impl_OrbitSizes.sem {W : World} {v : Value} {l : List Int} (own : Bool) {b : Bool} {r : List Int} (h : Rd W v l) (hb : litOk l = b) (hr : (if b = true then ints (sortedSizes l) else []) = r) : Calls Try.prog 7 #[.agg #[v, .bool own]] W fun e W' => ∃ u, e = .returned (.tuple #[u, .bool b]) ∧ Nw W W' u r ∧ Below W.heap.size W W' := by
  obtain ⟨A, c, rfl, hc, hC, hl⟩ := h
  obtain ⟨K, hK⟩ := ev_get (impl_OrbitSizes.ev l own)
  have e := hK K (Nat.le_refl _)
  rw [show (good l && decide (l.length ≤ 9)) = b from hb] at e
  have e2 : impl_OrbitSizes.f K l own = some ((if b = true then ints (sortedSizes l) else []), b) := by rw [e]; cases b <;> rfl
  subst hr
  exact (impl_OrbitSizes.calls K A c l own _ b W hC hc e2).mono fun _ _ ⟨u, he, h1, h2⟩ => ⟨u, he, ⟨h1, sizes_small hb⟩, h2⟩

theorem impl_CountOrbits.sem {W : World} {v : Value} {l : List Int} (own : Bool) {b : Bool} {r : Int} (h : Rd W v l) (hb : litOk l = b) (hr : (if b = true then ((starts l).length : Int) else 0) = r) : Calls Try.prog 9 #[.agg #[v, .bool own]] W fun e W' => e = .returned (.tuple #[.int .i64 r, .bool b]) ∧ Below W.heap.size W W' := by
  obtain ⟨A, c, rfl, hc, hC, hl⟩ := h
  obtain ⟨K, hK⟩ := ev_get (impl_CountOrbits.ev l own)
  have e := hK K (Nat.le_refl _)
  rw [show (good l && decide (l.length ≤ 9)) = b from hb] at e
  have e2 : impl_CountOrbits.f K l own = some ((if b = true then ((starts l).length : Int) else 0), b) := by rw [e]; cases b <;> rfl
  subst hr
  exact impl_CountOrbits.calls K A c l own _ b W hC hc e2

theorem impl_LeastLights.sem {W : World} {v : Value} {l : List Int} (own : Bool) {b : Bool} {r : List Int} (h : Rd W v l) (hb : litOk l = b) (hr : (if b = true then ints (starts l) else []) = r) : Calls Try.prog 11 #[.agg #[v, .bool own]] W fun e W' => ∃ u, e = .returned (.tuple #[u, .bool b]) ∧ Nw W W' u r ∧ Below W.heap.size W W' := by
  obtain ⟨A, c, rfl, hc, hC, hl⟩ := h
  obtain ⟨K, hK⟩ := ev_get (impl_LeastLights.ev l own)
  have e := hK K (Nat.le_refl _)
  rw [show (good l && decide (l.length ≤ 9)) = b from hb] at e
  have e2 : impl_LeastLights.f K l own = some ((if b = true then ints (starts l) else []), b) := by rw [e]; cases b <;> rfl
  subst hr
  exact (impl_LeastLights.calls K A c l own _ b W hC hc e2).mono fun _ _ ⟨u, he, h1, h2⟩ => ⟨u, he, ⟨h1, starts_small hb⟩, h2⟩

theorem impl_ReachOf.sem {W : World} {v : Value} {l : List Int} (own : Bool) (s : Int) {b : Bool} {r : List Int} (h : Rd W v l) (hb : setOk l s = b) (hr : (if b = true then ints (orbitOf l false s.toNat) else []) = r) : Calls Try.prog 18 #[.agg #[v, .bool own], .int .i64 s] W fun e W' => ∃ u, e = .returned (.tuple #[u, .bool b]) ∧ Nw W W' u r ∧ Below W.heap.size W W' := by
  obtain ⟨A, c, rfl, hc, hC, hl⟩ := h
  obtain ⟨K, hK⟩ := ev_get (impl_ReachOf.ev l own s)
  have e := hK K (Nat.le_refl _)
  rw [show (good l && decide (l.length ≤ 9) && inSet l.length s) = b from hb] at e
  have e2 : impl_ReachOf.f K l own s = some ((if b = true then ints (orbitOf l false s.toNat) else []), b) := by rw [e]; cases b <;> rfl
  subst hr
  exact (impl_ReachOf.calls K A c l own s _ b W hC hc e2).mono fun _ _ ⟨u, he, h1, h2⟩ => ⟨u, he, ⟨h1, orbit_small hb⟩, h2⟩

theorem impl_FewestLit.sem {W : World} {v : Value} {l : List Int} (own : Bool) (s : Int) {b : Bool} {r : Int} (h : Rd W v l) (hb : setOk l s = b) (hr : (if b = true then ((fewGo (orbitOf l false s.toNat) l.length : Nat) : Int) else 0) = r) : Calls Try.prog 16 #[.agg #[v, .bool own], .int .i64 s] W fun e W' => e = .returned (.tuple #[.int .i64 r, .bool b]) ∧ Below W.heap.size W W' := by
  obtain ⟨A, c, rfl, hc, hC, hl⟩ := h
  obtain ⟨K, hK⟩ := ev_get (impl_FewestLit.ev l own s)
  have e := hK K (Nat.le_refl _)
  rw [show (good l && decide (l.length ≤ 9) && inSet l.length s) = b from hb] at e
  have e2 : impl_FewestLit.f K l own s = some ((if b = true then ((fewGo (orbitOf l false s.toNat) l.length : Nat) : Int) else 0), b) := by rw [e]; cases b <;> rfl
  subst hr
  exact impl_FewestLit.calls K A c l own s _ b W hC hc e2

theorem spec_OrbitSizes.sem {W : World} {v : Value} {l : List Int} (own : Bool) {b : Bool} {r : List Int} (h : Rd W v l) (hb : litOk l = b) (hr : (if b = true then ints (sortedSizes l) else []) = r) : Calls Try.prog 8 #[.agg #[v, .bool own]] W fun e W' => ∃ u, e = .returned (.tuple #[u, .bool b]) ∧ Nw W W' u r ∧ Below W.heap.size W W' := by
  obtain ⟨A, c, rfl, hc, hC, hl⟩ := h
  obtain ⟨K, hK⟩ := ev_get (spec_OrbitSizes.ev l own (by omega))
  have e := hK K (Nat.le_refl _)
  rw [show (good l && decide (l.length ≤ 9)) = b from hb] at e
  have e2 : spec_OrbitSizes.f K l own = some ((if b = true then ints (sortedSizes l) else []), b) := by rw [e]; cases b <;> rfl
  subst hr
  exact (spec_OrbitSizes.calls K A c l own _ b W hC hc e2).mono fun _ _ ⟨u, he, h1, h2⟩ => ⟨u, he, ⟨h1, sizes_small hb⟩, h2⟩

theorem spec_CountOrbits.sem {W : World} {v : Value} {l : List Int} (own : Bool) {b : Bool} {r : Int} (h : Rd W v l) (hb : litOk l = b) (hr : (if b = true then ((starts l).length : Int) else 0) = r) : Calls Try.prog 10 #[.agg #[v, .bool own]] W fun e W' => e = .returned (.tuple #[.int .i64 r, .bool b]) ∧ Below W.heap.size W W' := by
  obtain ⟨A, c, rfl, hc, hC, hl⟩ := h
  obtain ⟨K, hK⟩ := ev_get (spec_CountOrbits.ev l own (by omega))
  have e := hK K (Nat.le_refl _)
  rw [show (good l && decide (l.length ≤ 9)) = b from hb] at e
  have e2 : spec_CountOrbits.f K l own = some ((if b = true then ((starts l).length : Int) else 0), b) := by rw [e]; cases b <;> rfl
  subst hr
  exact spec_CountOrbits.calls K A c l own _ b W hC hc e2

theorem spec_LeastLights.sem {W : World} {v : Value} {l : List Int} (own : Bool) {b : Bool} {r : List Int} (h : Rd W v l) (hb : litOk l = b) (hr : (if b = true then ints (starts l) else []) = r) : Calls Try.prog 12 #[.agg #[v, .bool own]] W fun e W' => ∃ u, e = .returned (.tuple #[u, .bool b]) ∧ Nw W W' u r ∧ Below W.heap.size W W' := by
  obtain ⟨A, c, rfl, hc, hC, hl⟩ := h
  obtain ⟨K, hK⟩ := ev_get (spec_LeastLights.ev l own (by omega))
  have e := hK K (Nat.le_refl _)
  rw [show (good l && decide (l.length ≤ 9)) = b from hb] at e
  have e2 : spec_LeastLights.f K l own = some ((if b = true then ints (starts l) else []), b) := by rw [e]; cases b <;> rfl
  subst hr
  exact (spec_LeastLights.calls K A c l own _ b W hC hc e2).mono fun _ _ ⟨u, he, h1, h2⟩ => ⟨u, he, ⟨h1, starts_small hb⟩, h2⟩

theorem spec_ReachOf.sem {W : World} {v : Value} {l : List Int} (own : Bool) (s : Int) {b : Bool} {r : List Int} (h : Rd W v l) (hb : setOk l s = b) (hr : (if b = true then ints (orbitOf l false s.toNat) else []) = r) : Calls Try.prog 19 #[.agg #[v, .bool own], .int .i64 s] W fun e W' => ∃ u, e = .returned (.tuple #[u, .bool b]) ∧ Nw W W' u r ∧ Below W.heap.size W W' := by
  obtain ⟨A, c, rfl, hc, hC, hl⟩ := h
  obtain ⟨K, hK⟩ := ev_get (spec_ReachOf.ev l own s (by omega))
  have e := hK K (Nat.le_refl _)
  rw [show (good l && decide (l.length ≤ 9) && inSet l.length s) = b from hb] at e
  have e2 : spec_ReachOf.f K l own s = some ((if b = true then ints (orbitOf l false s.toNat) else []), b) := by rw [e]; cases b <;> rfl
  subst hr
  exact (spec_ReachOf.calls K A c l own s _ b W hC hc e2).mono fun _ _ ⟨u, he, h1, h2⟩ => ⟨u, he, ⟨h1, orbit_small hb⟩, h2⟩

theorem spec_FewestLit.sem {W : World} {v : Value} {l : List Int} (own : Bool) (s : Int) {b : Bool} {r : Int} (h : Rd W v l) (hb : setOk l s = b) (hr : (if b = true then ((fewGo (orbitOf l false s.toNat) l.length : Nat) : Int) else 0) = r) : Calls Try.prog 17 #[.agg #[v, .bool own], .int .i64 s] W fun e W' => e = .returned (.tuple #[.int .i64 r, .bool b]) ∧ Below W.heap.size W W' := by
  obtain ⟨A, c, rfl, hc, hC, hl⟩ := h
  obtain ⟨K, hK⟩ := ev_get (spec_FewestLit.ev l own s (by omega))
  have e := hK K (Nat.le_refl _)
  rw [show (good l && decide (l.length ≤ 9) && inSet l.length s) = b from hb] at e
  have e2 : spec_FewestLit.f K l own s = some ((if b = true then ((fewGo (orbitOf l false s.toNat) l.length : Nat) : Int) else 0), b) := by rw [e]; cases b <;> rfl
  subst hr
  exact spec_FewestLit.calls K A c l own s _ b W hC hc e2

end Go.Proofs.Ytjkijnggjjoheaa.Draw
