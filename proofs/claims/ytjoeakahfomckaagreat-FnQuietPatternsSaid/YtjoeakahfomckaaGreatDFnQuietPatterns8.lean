/- What is drawn for FnQuietPatterns: within bounds, whatever it is. -/
import Derived.Test.YtjoeakahfomckaaGreatPFnQuietPatternsx
import Derived.Test.YtjoeakahfomckaaGreatQFnQuietPatterns0
import Derived.Test.YtjoeakahfomckaaGreatQFnQuietPatterns1
import Derived.Test.YtjoeakahfomckaaGreatM1
import Derived.Test.YtjoeakahfomckaaGreatM33
import Derived.WalkKit
import Derived.RowKit3
import Derived.Deep.QuietTactic
import Derived.BigQuiet
import Derived.Deep.DeepCutAuto
import Derived.Deep.CutBlock
import Derived.Deep.LoopGhost
import Derived.Outline
import Derived.Deep.DeepFit
import Derived.Test.YtjoeakahfomckaaGreatDFnQuietPatterns0
import Derived.Test.YtjoeakahfomckaaGreatDFnQuietPatterns1
import Derived.Test.YtjoeakahfomckaaGreatDFnQuietPatterns2
import Derived.Test.YtjoeakahfomckaaGreatDFnQuietPatterns3
import Derived.Test.YtjoeakahfomckaaGreatDFnQuietPatterns4
import Derived.Test.YtjoeakahfomckaaGreatDFnQuietPatterns5
import Derived.Test.YtjoeakahfomckaaGreatDFnQuietPatterns6
import Derived.Test.YtjoeakahfomckaaGreatDFnQuietPatterns7
namespace Go.Proofs.YtjoeakahfomckaaGreat.Draw
open Go.RowKit Go.Proofs.YtjoeakahfomckaaGreat.PFnQuietPatterns Go.Proofs.YtjoeakahfomckaaGreatW.PrintWords Go.Proofs.YtjoeakahfomckaaGreatW.PrintLast Go.Proofs.YtjoeakahfomckaaGreatW.PrintMore Go.Proofs.YtjoeakahfomckaaGreatM Go.Proofs.YtjoeakahfomckaaGreat.Pure
attribute [local go_sem] max2_int min2_int max_two min_two max_three min_three max_four min_four
set_option linter.unusedVariables false
set_option linter.unusedSimpArgs false
variable {w0 w w1 W : World} {g : Nat} {a : Int}
/-! What the functions on quiet sets return. -/
theorem spec_QuietBasis.sem {W : World} {v : Value} {l : List Int} (own : Bool) {r : List Int} {ok : Bool} (h : Rd W v l) (hr : qbR l own = (r, ok)) (hn : r.length ≤ 1048576) : Calls Tryz.prog 8 #[.agg #[v, .bool own]] W fun e W' => ∃ u, e = .returned (.tuple #[u, .bool ok]) ∧ Rd W' u r ∧ Below W.heap.size W W' := by
  obtain ⟨A, c, rfl, hc, hC, hl⟩ := h
  obtain ⟨K, hK⟩ := ev_get (spec_QuietBasis.ev l own (by omega))
  exact (spec_QuietBasis.calls K A c l own r ok W hC hc ((hK K (Nat.le_refl _)).trans (by rw [hr]))).mono fun _ _ ⟨u, he, h1, h2⟩ => ⟨u, he, Rd.of h1 hn, h2⟩
theorem spec_ImageBasis.sem {W : World} {v : Value} {l : List Int} (own : Bool) {r : List Int} {ok : Bool} (h : Rd W v l) (hr : ibR l own = (r, ok)) (hn : r.length ≤ 1048576) : Calls Tryz.prog 10 #[.agg #[v, .bool own]] W fun e W' => ∃ u, e = .returned (.tuple #[u, .bool ok]) ∧ Rd W' u r ∧ Below W.heap.size W W' := by
  obtain ⟨A, c, rfl, hc, hC, hl⟩ := h
  obtain ⟨K, hK⟩ := ev_get (spec_ImageBasis.ev l own (by omega))
  exact (spec_ImageBasis.calls K A c l own r ok W hC hc ((hK K (Nat.le_refl _)).trans (by rw [hr]))).mono fun _ _ ⟨u, he, h1, h2⟩ => ⟨u, he, Rd.of h1 hn, h2⟩
theorem spec_QuietPatterns.sem {W : World} {v : Value} {l : List Int} (own : Bool) {r : List Int} {ok : Bool} (h : Rd W v l) (hr : qpR l own = (r, ok)) (hn : r.length ≤ 1048576) : Calls Tryz.prog 21 #[.agg #[v, .bool own]] W fun e W' => ∃ u, e = .returned (.tuple #[u, .bool ok]) ∧ Rd W' u r ∧ Below W.heap.size W W' := by
  obtain ⟨A, c, rfl, hc, hC, hl⟩ := h
  obtain ⟨K, hK⟩ := ev_get (spec_QuietPatterns.ev l own (by omega))
  exact (spec_QuietPatterns.calls K A c l own r ok W hC hc ((hK K (Nat.le_refl _)).trans (by rw [hr]))).mono fun _ _ ⟨u, he, h1, h2⟩ => ⟨u, he, Rd.of h1 hn, h2⟩
theorem spec_IsQuiet.sem {W : World} {v : Value} {l : List Int} (own : Bool) (s : Int) {x ok : Bool} (h : Rd W v l) (hr : isQuietR l own s = (x, ok)) : Calls Tryz.prog 24 #[.agg #[v, .bool own], .int .i64 s] W fun e W' => e = .returned (.tuple #[.bool x, .bool ok]) ∧ Below W.heap.size W W' := by
  obtain ⟨A, c, rfl, hc, hC, hl⟩ := h
  obtain ⟨K, hK⟩ := ev_get (spec_IsQuiet.ev l own s (by omega))
  exact spec_IsQuiet.calls K A c l own s x ok W hC hc ((hK K (Nat.le_refl _)).trans (by rw [hr]))
theorem impl_ReducedSet.sem {W : World} {v : Value} {l : List Int} (s : Int) {x : Int} {ok : Bool} (h : Rd W v l) (hr : redSet l s = (x, ok)) : Calls Tryz.prog 18 #[v, .int .i64 s] W fun e W' => e = .returned (.tuple #[.int .i64 x, .bool ok]) ∧ Below W.heap.size W W' := by
  obtain ⟨A, c, rfl, hc, hC, hl⟩ := h
  obtain ⟨K, hK⟩ := ev_get (impl_ReducedSet.ev l s (by omega))
  exact impl_ReducedSet.calls K A c l s x ok W hC hc ((hK K (Nat.le_refl _)).trans (by rw [hr]))
theorem spec_ReducedSet.sem {W : World} {v : Value} {l : List Int} (s : Int) {x : Int} {ok : Bool} (h : Rd W v l) (hr : redSet l s = (x, ok)) : Calls Tryz.prog 26 #[v, .int .i64 s] W fun e W' => e = .returned (.tuple #[.int .i64 x, .bool ok]) ∧ Below W.heap.size W W' := by
  obtain ⟨A, c, rfl, hc, hC, hl⟩ := h
  obtain ⟨K, hK⟩ := ev_get (spec_ReducedSet.ev l s (by omega))
  exact (spec_ReducedSet.calls K A c l s x ok W hC hc ((hK K (Nat.le_refl _)).trans (by rw [hr]))).mono fun _ _ ⟨he, hn⟩ => ⟨he, Drawn0.below hn⟩

/-! What the laws' own helpers return. -/
theorem vTop_sem {W : World} (s : Nat) (h : s < 2 ^ 62) (h0 : s ≠ 0) {t : Nat} (ht : blen s - 1 = t) : Calls Tryz.prog 16 #[.int .i64 (s : Int)] W fun e W' => e = .returned (.int .i64 (t : Int)) ∧ Below W.heap.size W W' := by
  obtain ⟨K, hK⟩ := ev_get (laws_vTop.ev s h)
  have h1 := blen_ne h0
  have e : pdeg s = (t : Int) := by unfold pdeg; omega
  rw [e] at hK
  exact (laws_vTop.calls K _ _ W (hK K (Nat.le_refl _))).mono fun _ _ ⟨he, hn⟩ => ⟨he, Drawn0.below hn⟩
theorem vSame_sem {W : World} {v v2 : Value} {l l2 : List Int} (h : Rd W v l) (h2 : Rd W v2 l2) {b : Bool} (hb : decide (l = l2) = b) : Calls Tryz.prog 14 #[v, v2] W fun e W' => e = .returned (.bool b) ∧ Below W.heap.size W W' := by
  obtain ⟨A, c, rfl, hc, hC, hl⟩ := h
  obtain ⟨A2, c2, rfl, hc2, hC2, hl2⟩ := h2
  obtain ⟨K, hK⟩ := ev_get (laws_vSame.ev l l2 (by omega))
  exact (laws_vSame.calls K A c l A2 c2 l2 b W hC hc hC2 hc2 ((hK K (Nat.le_refl _)).trans (by rw [hb]))).mono fun _ _ ⟨he, hn⟩ => ⟨he, Drawn0.below hn⟩

end Go.Proofs.YtjoeakahfomckaaGreat.Draw
