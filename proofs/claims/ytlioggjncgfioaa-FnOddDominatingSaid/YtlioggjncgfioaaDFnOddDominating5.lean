/- What is drawn for FnOddDominating: within bounds, whatever it is. -/
import Derived.Test.YtlioggjncgfioaaPFnOddDominatingx
import Derived.Test.YtlioggjncgfioaaQFnOddDominating0
import Derived.Test.YtlioggjncgfioaaQFnOddDominating1
import Derived.Test.YtlioggjncgfioaaM1
import Derived.Test.YtlioggjncgfioaaM37
import Derived.Test.YtlioggjncgfioaaM38
import Derived.Test.YtlioggjncgfioaaM39
import Derived.WalkKit
import Derived.RowKit3
import Derived.Deep.QuietTactic
import Derived.BigQuiet
import Derived.Deep.DeepCutAuto
import Derived.Deep.CutBlock
import Derived.Deep.LoopGhost
import Derived.Outline
import Derived.Deep.DeepFit
import Derived.Test.YtlioggjncgfioaaDFnOddDominating0
import Derived.Test.YtlioggjncgfioaaDFnOddDominating1
import Derived.Test.YtlioggjncgfioaaDFnOddDominating2
import Derived.Test.YtlioggjncgfioaaDFnOddDominating3
import Derived.Test.YtlioggjncgfioaaDFnOddDominating4
namespace Go.Proofs.Ytlioggjncgfioaa.Draw
open Go.RowKit Go.Proofs.Ytlioggjncgfioaa.PFnOddDominating Go.Proofs.YtlioggjncgfioaaW.PrintWords Go.Proofs.YtlioggjncgfioaaW.PrintLast Go.Proofs.YtlioggjncgfioaaW.PrintMore Go.Proofs.YtlioggjncgfioaaM Go.Proofs.Ytlioggjncgfioaa.Pure
attribute [local go_sem] max2_int min2_int max_two min_two max_three min_three max_four min_four
set_option linter.unusedVariables false
set_option linter.unusedSimpArgs false
variable {w0 w w1 W : World} {g : Nat} {a : Int}
/-! All lights at once, the basis of quiet sets, and graphs that are drawn. -/
theorem whole_any (W : World) (n : Nat) (h : n ≤ 62) : Calls Try.prog 60 #[.int .i64 (n : Int)] W fun e W' => e = .returned (.int .i64 ((2 ^ n - 1 : Nat) : Int)) ∧ ∃ k, W' = W.drewN k :=
  (impl_whole.calls (n : Int) _ W (impl_whole.eq (n : Int) (by omega) (by omega))).mono fun _ _ ⟨he, hn⟩ => ⟨he.trans (by
    have hp := Nat.two_pow_pos n
    have hc := pow_cast n
    rw [Int.toNat_natCast, show (2 : Int) ^ n - 1 = ((2 ^ n - 1 : Nat) : Int) by omega]), hn.out⟩
set_option maxRecDepth 100000 in
set_option maxHeartbeats 4000000 in
theorem AllOn_any {W : World} {v : Value} {l : List Int} (own : Bool) {x : Int} {ok : Bool} (h : Rd W v l) (hr : allR l own = (x, ok)) : Calls Try.prog 19 #[.agg #[v, .bool own]] W fun e W' => e = .returned (.tuple #[.int .i64 x, .bool ok]) ∧ Below W.heap.size W W' := by
  have hu := Try.underlying29
  obtain ⟨A, c, rfl⟩ := h.slice
  have HB := Aside0.mk (below_alloc (Below.refl W.heap.size W) (.cells #[.slice A l.length c, .bool own] 29 (0, 0)))
  have X := Aside0.mk (blk_new W (.cells #[.slice A l.length c, .bool own] 29 (0, 0)))
  have R := Aside0.mk (h.alloc (.cells #[.slice A l.length c, .bool own] 29 (0, 0)))
  clear h
  obtain ⟨m, hm, hm2, HS⟩ : ∃ m : Nat, m ≤ 16 ∧ m = min l.length 16 ∧ Aside0 (solveR l own ((2 ^ m - 1 : Nat) : Int) = (x, ok)) := by
    refine ⟨min l.length 16, by omega, rfl, ⟨?_⟩⟩
    cases e : good l
    · obtain ⟨h1, h2⟩ := allR_bad (l := l) own ((2 ^ min l.length 16 - 1 : Nat) : Int) e
      rw [h1, ← h2, hr]
    · have := ((good_iff l).1 e).top
      rw [show min l.length 16 = l.length by omega, ← allR_solve, hr]
  clear hr
  have hmin : (if 16 < (l.length : Int) then 16 else (l.length : Int)) = (m : Int) := by split <;> omega
  clear hm2
  go_enter Try.func19, Try.ntmps19
  go_upto_region 1 with (fail)
  generalize W.alloc (.cells #[.slice A l.length c, .bool own] 29 (0, 0)) = w1 at *
  (try clear hX0 hX1 fX0 fX1); have hX0 := (blk_cell X.out 0).trans rfl; have hX1 := (blk_cell X.out 1).trans rfl; have fX0 := blk_frozen X.out 0; have fX1 := blk_frozen X.out 1
  go_region_held3 (fun w' => w'.cell? ⟨W.heap.size, 0, none⟩ = some (.slice A l.length c) ∧ w'.cell? ⟨W.heap.size, 1, none⟩ = some (.bool own)) (first | exact ⟨hX0, hX1⟩ | go_keep) (first
    | (go_at_call 60; (with_reducible refine (whole_any _ m (by omega)).mono ?_); rintro e w2 ⟨rfl, k, rfl⟩; have hb := below_step (below_drew1 (Below.refl w1.heap.size w1)) (pw_below_drewN (Below.refl _ _) k); generalize w1.drew.drewN k = w2 at *; have nX := Aside0.mk (blk_below X.out hb); have nR := Aside0.mk (R.out.below hb); have nB := Aside0.mk (below_step HB.out hb); clear X HB R hb hX0 hX1 fX0 fX1; have X := nX; have R := nR; have HB := nB; clear nX nR nB; (try clear hX0 hX1 fX0 fX1); have hX0 := (blk_cell X.out 0).trans rfl; have hX1 := (blk_cell X.out 1).trans rfl; have fX0 := blk_frozen X.out 0; have fX1 := blk_frozen X.out 1)
    | (go_at_call 28; (with_reducible refine (SolveBoard_any own _ R.out HS.out).mono ?_); rintro e w3 ⟨rfl, hb⟩; have nX := Aside0.mk (blk_below X.out hb); have nR := Aside0.mk (R.out.below hb); have nB := Aside0.mk (below_step HB.out hb); clear X HB R hb hX0 hX1 fX0 fX1; have X := nX; have R := nR; have HB := nB; clear nX nR nB; (try clear hX0 hX1 fX0 fX1); have hX0 := (blk_cell X.out 0).trans rfl; have hX1 := (blk_cell X.out 1).trans rfl; have fX0 := blk_frozen X.out 0; have fX1 := blk_frozen X.out 1))
  go_wp2
  go_ret2
  exact ⟨rfl, HB.out⟩

/-! What solving returns. -/



theorem impl_EffectOf.sem {W : World} {v : Value} {l : List Int} (own : Bool) (p : Int) {x : Int} {ok : Bool} (h : Rd W v l) (hr : pressAll l own 0 p = (x, ok)) : Calls Try.prog 23 #[.agg #[v, .bool own], .int .i64 p] W fun e W' => e = .returned (.tuple #[.int .i64 x, .bool ok]) ∧ Below W.heap.size W W' := by
  obtain ⟨A, c, rfl, hc, hC, hl⟩ := h
  obtain ⟨K, hK⟩ := ev_get (impl_EffectOf.ev l own p)
  exact impl_EffectOf.calls K A c l own p x ok W hC hc ((hK K (Nat.le_refl _)).trans (by first | rw [hr] | (rw [← hr]; rfl)))



theorem impl_PressAll.sem {W : World} {v : Value} {l : List Int} (own : Bool) (s : Int) (p : Int) {x : Int} {ok : Bool} (h : Rd W v l) (hr : pressAll l own s p = (x, ok)) : Calls Try.prog 36 #[.agg #[v, .bool own], .int .i64 s, .int .i64 p] W fun e W' => e = .returned (.tuple #[.int .i64 x, .bool ok]) ∧ Below W.heap.size W W' := by
  obtain ⟨A, c, rfl, hc, hC, hl⟩ := h
  obtain ⟨K, hK⟩ := ev_get (impl_PressAll.ev l own s p)
  exact impl_PressAll.calls K A c l own s p x ok W hC hc ((hK K (Nat.le_refl _)).trans (by first | rw [hr] | (rw [← hr]; rfl)))


theorem IsGraph_any {W : World} {v : Value} {l : List Int} (own : Bool) {b : Bool} (h : Rd W v l) (hr : good l = b) : Calls Try.prog 21 #[.agg #[v, .bool own]] W fun e W' => e = .returned (.bool b) ∧ Below W.heap.size W W' := by
  obtain ⟨A, c, rfl, hc, hC, hl⟩ := h
  obtain ⟨K, hK⟩ := ev_get (impl_isGraph.ev l own)
  exact impl_IsGraph.calls K A c l own b W hC hc (by
    have h1 : impl_isGraph.f K l own = some (good l) := hK K (Nat.le_refl _)
    unfold impl_IsGraph.f
    rw [h1, hr]
    rfl)

/-! What the laws' own helpers return. -/

end Go.Proofs.Ytlioggjncgfioaa.Draw
