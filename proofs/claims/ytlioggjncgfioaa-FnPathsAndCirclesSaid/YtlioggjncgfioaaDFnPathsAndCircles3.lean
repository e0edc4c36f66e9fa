/- What is drawn for FnPathsAndCircles: within bounds, whatever it is. -/
import Derived.Test.YtlioggjncgfioaaPFnPathsAndCirclesx
import Derived.Test.YtlioggjncgfioaaQFnPathsAndCircles0
import Derived.Test.YtlioggjncgfioaaM1
import Derived.Test.YtlioggjncgfioaaM24
import Derived.WalkKit
import Derived.RowKit3
import Derived.Deep.QuietTactic
import Derived.BigQuiet
import Derived.Deep.DeepCutAuto
import Derived.Deep.CutBlock
import Derived.Deep.LoopGhost
import Derived.Outline
import Derived.Deep.DeepFit
import Derived.Test.YtlioggjncgfioaaDFnPathsAndCircles0
import Derived.Test.YtlioggjncgfioaaDFnPathsAndCircles1
import Derived.Test.YtlioggjncgfioaaDFnPathsAndCircles2
namespace Go.Proofs.Ytlioggjncgfioaa.Draw
open Go.RowKit Go.Proofs.Ytlioggjncgfioaa.PFnPathsAndCircles Go.Proofs.YtlioggjncgfioaaW.PrintWords Go.Proofs.YtlioggjncgfioaaW.PrintLast Go.Proofs.YtlioggjncgfioaaW.PrintMore Go.Proofs.YtlioggjncgfioaaM Go.Proofs.Ytlioggjncgfioaa.Pure
attribute [local go_sem] max2_int min2_int max_two min_two max_three min_three max_four min_four
set_option linter.unusedVariables false
set_option linter.unusedSimpArgs false
variable {w0 w w1 W : World} {g : Nat} {a : Int}
/-! Draws of a number and a truth value; paths, circles and their nullities. -/
def DrawNBP (W : World) (e : Ending) (W' : World) : Prop := ∃ (n : Int) (b : Bool), e = .returned (.tuple #[.int .i64 n, .bool b]) ∧ Below W.heap.size W W'
set_option maxRecDepth 100000 in
set_option maxHeartbeats 8000000 in
theorem DrawPathNullity_any {W : World} {v : Value} {l0 : List Int} (h : Rb W v l0) : Calls Try.prog 8 #[v] W (DrawNBP W) := by
  obtain ⟨A, c, rfl, hcl, hr, hx⟩ := h
  have huc := Try.underlying53
  have HC := Aside0.mk (Cur.new W A c l0 hr hx)
  clear hr hx hcl
  go_enter Try.func8, Try.ntmps8
  go_upto_if 9 with (go_at_call 48; (with_reducible refine (one_any _ _ HC.out (by omega)).mono ?_); rintro e w2 ⟨b, rfl, hc, hk⟩; clear HC hk; have HC := Aside0.mk hc; clear hc)
  cases b
  · go_wp2_with (first
      | (go_at_call 50; (with_reducible refine (pick_any _ _ HC.out (by omega)).mono ?_); rintro e w3 ⟨t, rfl, ht0, ht1, ht, hc, hk⟩; clear HC hk; have HC := Aside0.mk hc; clear hc)
      | (go_at_call 48; (with_reducible refine (one_any _ _ HC.out (by omega)).mono ?_); rintro e w4 ⟨b, rfl, hc, hk⟩; clear HC hk; have HC := Aside0.mk hc; clear hc))
    go_ret2
    exact ⟨_, _, rfl, HC.out.base⟩
  · go_wp2_with (first
      | (go_at_call 49; refine (among_lit _ (HC.out.alloc _) (by omega) (C_lit _ [_, _, _, _, _, _, _] (by simp)) (by have h := HC.out.lt; omega) rfl (by simp)).mono ?_; rintro e w3 ⟨x, rfl, hx, hc, hk⟩; clear HC hk hx; have HC := Aside0.mk hc; clear hc)
      | (go_at_call 48; (with_reducible refine (one_any _ _ HC.out (by omega)).mono ?_); rintro e w4 ⟨b, rfl, hc, hk⟩; clear HC hk; have HC := Aside0.mk hc; clear hc))
    go_ret2
    exact ⟨_, _, rfl, HC.out.base⟩
set_option maxRecDepth 100000 in
set_option maxHeartbeats 8000000 in
theorem DrawCircleNullity_any {W : World} {v : Value} {l0 : List Int} (h : Rb W v l0) : Calls Try.prog 11 #[v] W (DrawNBP W) := by
  have H := Aside0.mk h
  clear h
  go_enter Try.func11, Try.ntmps11
  go_wp2_with (go_at_call 8; (with_reducible refine (DrawPathNullity_any H.out).mono ?_); rintro e w2 ⟨n, b, rfl, hb⟩; have HB := Aside0.mk hb; clear hb)
  go_ret2
  exact ⟨_, _, rfl, HB.out⟩
theorem impl_PathNullity.sem {W : World} {n x : Int} {own ok : Bool} (hr : pathR n own = (x, ok)) : Calls Try.prog 9 #[.int .i64 n, .bool own] W fun e W' => e = .returned (.tuple #[.int .i64 x, .bool ok]) ∧ Below W.heap.size W W' :=
  (impl_PathNullity.calls n own x ok W (by rw [impl_PathNullity.eq, hr])).mono fun _ _ ⟨he, hn⟩ => ⟨he, Drawn0.below hn⟩
theorem spec_PathNullity.sem {W : World} {n x : Int} {own ok : Bool} (hr : pathR n own = (x, ok)) : Calls Try.prog 10 #[.int .i64 n, .bool own] W fun e W' => e = .returned (.tuple #[.int .i64 x, .bool ok]) ∧ Below W.heap.size W W' :=
  (spec_PathNullity.calls n own x ok W (by rw [spec_PathNullity.eq, hr])).mono fun _ _ ⟨he, hn⟩ => ⟨he, Drawn0.below hn⟩
theorem impl_CircleNullity.sem {W : World} {n x : Int} {own ok : Bool} (hr : circleR n own = (x, ok)) : Calls Try.prog 12 #[.int .i64 n, .bool own] W fun e W' => e = .returned (.tuple #[.int .i64 x, .bool ok]) ∧ Below W.heap.size W W' := by
  obtain ⟨K, hK⟩ := ev_get (impl_CircleNullity.ev n own)
  exact (impl_CircleNullity.calls K n own x ok W ((hK K (Nat.le_refl _)).trans (by rw [hr]))).mono fun _ _ ⟨he, hn⟩ => ⟨he, Drawn0.below hn⟩
theorem spec_CircleNullity.sem {W : World} {n x : Int} {own ok : Bool} (hr : circleR n own = (x, ok)) : Calls Try.prog 13 #[.int .i64 n, .bool own] W fun e W' => e = .returned (.tuple #[.int .i64 x, .bool ok]) ∧ Below W.heap.size W W' :=
  (spec_CircleNullity.calls n own x ok W (by rw [spec_CircleNullity.eq, hr])).mono fun _ _ ⟨he, hn⟩ => ⟨he, Drawn0.below hn⟩
theorem impl_GridNullity.sem {W : World} {a b x : Int} {own ok : Bool} (hr : gridNullity a b own = (x, ok)) : Calls Try.prog 17 #[.int .i64 a, .int .i64 b, .bool own] W fun e W' => e = .returned (.tuple #[.int .i64 x, .bool ok]) ∧ Below W.heap.size W W' := by
  obtain ⟨K, hK⟩ := ev_get (impl_GridNullity.ev a b own)
  exact (impl_GridNullity.calls K a b own x ok W ((hK K (Nat.le_refl _)).trans (by rw [hr]))).mono fun _ _ ⟨he, hn⟩ => ⟨he, Drawn0.below hn⟩
theorem impl_PathGraph.sem {W : World} (n : Nat) (own : Bool) (h1 : 1 ≤ n) (h2 : n ≤ 16) : Calls Try.prog 16 #[.int .i64 (n : Int), .bool own] W fun e W' => ∃ u, e = .returned (.tuple #[.agg #[u, .bool own], .bool true]) ∧ Nw W W' u (ints (pathL n)) ∧ Below W.heap.size W W' := by
  obtain ⟨K, hK⟩ := ev_get (impl_PathGraph.ev n own h1 h2)
  exact (impl_PathGraph.calls K (n : Int) own _ _ _ W (hK K (Nat.le_refl _))).mono fun _ _ ⟨u, he, h3, h4⟩ => ⟨u, he, ⟨h3, by rw [ints_length, pathL_length]; omega⟩, h4⟩
theorem impl_CircleGraph.sem {W : World} (n : Nat) (own : Bool) (h1 : 3 ≤ n) (h2 : n ≤ 16) : Calls Try.prog 14 #[.int .i64 (n : Int), .bool own] W fun e W' => ∃ u, e = .returned (.tuple #[.agg #[u, .bool own], .bool true]) ∧ Nw W W' u (ints (circleL n)) ∧ Below W.heap.size W W' := by
  obtain ⟨K, hK⟩ := ev_get (impl_CircleGraph.yes n own h1 h2)
  exact (impl_CircleGraph.calls K (n : Int) own _ _ _ W (hK K (Nat.le_refl _))).mono fun _ _ ⟨u, he, h3, h4⟩ => ⟨u, he, ⟨h3, by rw [ints_length, circleL_length]; omega⟩, h4⟩
end Go.Proofs.Ytlioggjncgfioaa.Draw
