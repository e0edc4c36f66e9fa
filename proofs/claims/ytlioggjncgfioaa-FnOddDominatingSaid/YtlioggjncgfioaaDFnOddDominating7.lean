/- What is drawn for FnOddDominating: within bounds, whatever it is. -/
import Derived.Test.YtlioggjncgfioaaPFnOddDominatingx
import Derived.Test.YtlioggjncgfioaaQFnOddDominating0
import Derived.Test.YtlioggjncgfioaaQFnOddDominating1
import Derived.Test.YtlioggjncgfioaaM1
import Derived.Test.YtlioggjncgfioaaM37
import Derived.Test.YtlioggjncgfioaaM38
import Derived.Test.YtlioggjncgfioaaM39
import Derived.WalkKit
import Derived.RowKit3
import Derived.Deep.QuietTactic
import Derived.BigQuiet
import Derived.Deep.DeepCutAuto
import Derived.Deep.CutBlock
import Derived.Deep.LoopGhost
import Derived.Outline
import Derived.Deep.DeepFit
import Derived.Test.YtlioggjncgfioaaDFnOddDominating0
import Derived.Test.YtlioggjncgfioaaDFnOddDominating1
import Derived.Test.YtlioggjncgfioaaDFnOddDominating2
import Derived.Test.YtlioggjncgfioaaDFnOddDominating3
import Derived.Test.YtlioggjncgfioaaDFnOddDominating4
import Derived.Test.YtlioggjncgfioaaDFnOddDominating5
import Derived.Test.YtlioggjncgfioaaDFnOddDominating6
namespace Go.Proofs.Ytlioggjncgfioaa.Draw
open Go.RowKit Go.Proofs.Ytlioggjncgfioaa.PFnOddDominating Go.Proofs.YtlioggjncgfioaaW.PrintWords Go.Proofs.YtlioggjncgfioaaW.PrintLast Go.Proofs.YtlioggjncgfioaaW.PrintMore Go.Proofs.YtlioggjncgfioaaM Go.Proofs.Ytlioggjncgfioaa.Pure
attribute [local go_sem] max2_int min2_int max_two min_two max_three min_three max_four min_four
set_option linter.unusedVariables false
set_option linter.unusedSimpArgs false
variable {w0 w w1 W : World} {g : Nat} {a : Int}
/-! Graphs drawn for splits, odd dominating sets and parts; what PartsOf returns. -/
set_option maxRecDepth 100000 in
set_option maxHeartbeats 8000000 in
theorem DrawEvenSplit_any {W : World} {v : Value} {l0 : List Int} (h : Rb W v l0) : Calls Try.prog 76 #[v] W (DrawGP W) := by
  obtain ⟨A, c, rfl, hcl, hr, hx⟩ := h
  have hu := Try.underlying29
  have huc := Try.underlying53
  have HW := Aside0.mk (below_alloc (Below.refl W.heap.size W) (.cells #[.slice none 0 0, .bool false] 29))
  have X := Aside0.mk (blk_new W (.cells #[.slice none 0 0, .bool false] 29))
  have HR0 := Aside0.mk (Kd.C_alloc hr (.cells #[.slice none 0 0, .bool false] 29))
  have HXX := Aside0.mk hx
  clear hr hx hcl
  go_enter Try.func76, Try.ntmps76
  go_upto_region 1 with (fail)
  generalize W.alloc (.cells #[.slice none 0 0, .bool false] 29) = w1 at *
  have HC := Aside0.mk (Cur.new w1 A c l0 HR0.out HXX.out)
  have hXg := Nat.ne_of_lt (blk_lt X.out)
  have hXl := blk_lt X.out
  have hRg : w1.heap.size < (w1.alloc (Obj.cells #[Value.slice A l0.length c, Value.int IntKind.i64 0, Value.int IntKind.u64 0] 53)).heap.size := by simp
  go_upto_region 2 with (fail)
  have nX := Aside0.mk (blk_alloc X.out (.cells #[.slice A l0.length c, .int .i64 0, .int .u64 0] 53))
  clear X
  have X := nX
  clear nX
  generalize World.alloc w1 (.cells #[.slice A l0.length c, .int .i64 0, .int .u64 0] 53) = w1s at *
  go_wp2_with (go_at_call 88; (with_reducible refine (graph_any _ _ HC.out (by omega) (by omega) (by omega)).mono ?_); rintro e w3 ⟨z, l, own, rfl, hr, hll, hc, hk⟩; obtain ⟨A2, c2, rfl⟩ := Kd.R_slice hr; have nX := Aside0.mk (hk.blk X.out hXg (by simp)); have R := Aside0.mk hr; have hW3 := blk_lt X.out; clear HC X hk hr; have HC := Aside0.mk hc; have X := nX; clear hc nX; (try clear hX0 hX1 fX0 fX1); have hX0 := (blk_cell X.out 0).trans rfl; have hX1 := (blk_cell X.out 1).trans rfl; have fX0 := blk_frozen X.out 0; have fX1 := blk_frozen X.out 1)
  go_wp2
  refine bodyPost_ret (results_cell_row rfl _ _ W.heap.size 29 _ (0, 0) _ rfl (put2_blk X.out _ _) Try.underlying29 rfl (by kernel_rfl)) rfl ?_
  exact ⟨_, l, own, rfl, ⟨Kd.R_lower (row_far (row_far R.out (p := ⟨W.heap.size, 0, none⟩) (by simp only; omega) _) (p := ⟨W.heap.size, 1, none⟩) (by simp only; omega) _) (by omega), by omega⟩, below_set (below_set (below_step HW.out HC.out.base) (Nat.le_refl _)) (Nat.le_refl _)⟩
set_option maxRecDepth 100000 in
set_option maxHeartbeats 8000000 in
theorem DrawOddDominating_any {W : World} {v : Value} {l0 : List Int} (h : Rb W v l0) : Calls Try.prog 38 #[v] W (DrawGP W) := by
  have hu := Try.underlying29
  have HW := Aside0.mk (below_alloc (Below.refl W.heap.size W) (.cells #[.slice none 0 0, .bool false] 29))
  have X := Aside0.mk (blk_new W (.cells #[.slice none 0 0, .bool false] 29))
  have H := Aside0.mk (h.below HW.out)
  obtain ⟨A, c, rfl, _⟩ := h
  go_enter Try.func38, Try.ntmps38
  go_upto_region 1 with (fail)
  generalize W.alloc (.cells #[.slice none 0 0, .bool false] 29) = w1 at *
  have hXl := blk_lt X.out
  go_wp2_with (go_at_call 76; (with_reducible refine (DrawEvenSplit_any H.out).mono ?_); rintro e w2 ⟨u, l, own, rfl, hr, hb⟩; obtain ⟨A2, c2, rfl⟩ := hr.slice; have R := Aside0.mk hr; have nX := Aside0.mk (blk_below X.out hb); have nW := Aside0.mk (below_step HW.out hb); clear hr hb X HW; have X := nX; have HW := nW; clear nX nW; (try clear hX0 hX1 fX0 fX1); have hX0 := (blk_cell X.out 0).trans rfl; have hX1 := (blk_cell X.out 1).trans rfl; have fX0 := blk_frozen X.out 0; have fX1 := blk_frozen X.out 1)
  refine bodyPost_ret (results_cell_row rfl _ _ W.heap.size 29 _ (0, 0) _ rfl (put2_blk X.out _ _) Try.underlying29 rfl (by kernel_rfl)) rfl ?_
  exact ⟨_, l, own, rfl, ⟨Kd.R_lower (row_far (row_far R.out.1 (p := ⟨W.heap.size, 0, none⟩) hXl _) (p := ⟨W.heap.size, 1, none⟩) hXl _) (Nat.le_of_lt hXl), R.out.2⟩, below_set (below_set HW.out (Nat.le_refl _)) (Nat.le_refl _)⟩

set_option maxRecDepth 100000 in
set_option maxHeartbeats 8000000 in
theorem DrawPartsOf_any {W : World} {v : Value} {l0 : List Int} (h : Rb W v l0) : Calls Try.prog 43 #[v] W (DrawGP W) := by
  have hu := Try.underlying29
  have HW := Aside0.mk (below_alloc (Below.refl W.heap.size W) (.cells #[.slice none 0 0, .bool false] 29))
  have X := Aside0.mk (blk_new W (.cells #[.slice none 0 0, .bool false] 29))
  have H := Aside0.mk (h.below HW.out)
  obtain ⟨A, c, rfl, _⟩ := h
  go_enter Try.func43, Try.ntmps43
  go_upto_region 1 with (fail)
  generalize W.alloc (.cells #[.slice none 0 0, .bool false] 29) = w1 at *
  have hXl := blk_lt X.out
  go_wp2_with (go_at_call 76; (with_reducible refine (DrawEvenSplit_any H.out).mono ?_); rintro e w2 ⟨u, l, own, rfl, hr, hb⟩; obtain ⟨A2, c2, rfl⟩ := hr.slice; have R := Aside0.mk hr; have nX := Aside0.mk (blk_below X.out hb); have nW := Aside0.mk (below_step HW.out hb); clear hr hb X HW; have X := nX; have HW := nW; clear nX nW; (try clear hX0 hX1 fX0 fX1); have hX0 := (blk_cell X.out 0).trans rfl; have hX1 := (blk_cell X.out 1).trans rfl; have fX0 := blk_frozen X.out 0; have fX1 := blk_frozen X.out 1)
  refine bodyPost_ret (results_cell_row rfl _ _ W.heap.size 29 _ (0, 0) _ rfl (put2_blk X.out _ _) Try.underlying29 rfl (by kernel_rfl)) rfl ?_
  exact ⟨_, l, own, rfl, ⟨Kd.R_lower (row_far (row_far R.out.1 (p := ⟨W.heap.size, 0, none⟩) hXl _) (p := ⟨W.heap.size, 1, none⟩) hXl _) (Nat.le_of_lt hXl), R.out.2⟩, below_set (below_set HW.out (Nat.le_refl _)) (Nat.le_refl _)⟩

theorem impl_PartsOf.sem {W : World} {v : Value} {l : List Int} (own : Bool) {r : List Int} {ok : Bool} (h : Rd W v l) (hr : partsR l = (r, ok)) : Calls Try.prog 44 #[.agg #[v, .bool own]] W fun e W' => ∃ u, e = .returned (.tuple #[u, .bool ok]) ∧ Nw W W' u r ∧ Below W.heap.size W W' := by
  obtain ⟨A, c, rfl, hc, hC, hl⟩ := h
  obtain ⟨K, hK⟩ := ev_get (impl_PartsOf.ev l own)
  have hln : r.length ≤ 1048576 := partsR_len hr
  exact (impl_PartsOf.calls K A c l own r ok W hC hc ((hK K (Nat.le_refl _)).trans (by rw [← hr] <;> rfl))).mono fun _ _ ⟨u, he, h1, h2⟩ => ⟨u, he, ⟨h1, hln⟩, h2⟩

theorem spec_PartsOf.sem {W : World} {v : Value} {l : List Int} (own : Bool) {r : List Int} {ok : Bool} (h : Rd W v l) (hr : partsR l = (r, ok)) : Calls Try.prog 45 #[.agg #[v, .bool own]] W fun e W' => ∃ u, e = .returned (.tuple #[u, .bool ok]) ∧ Nw W W' u r ∧ Below W.heap.size W W' := by
  obtain ⟨A, c, rfl, hc, hC, hl⟩ := h
  obtain ⟨K, hK⟩ := ev_get (spec_PartsOf.ev l own (by omega))
  have hln : r.length ≤ 1048576 := partsR_len hr
  exact (spec_PartsOf.calls K A c l own r ok W hC hc ((hK K (Nat.le_refl _)).trans (by rw [← hr] <;> rfl))).mono fun _ _ ⟨u, he, h1, h2⟩ => ⟨u, he, ⟨h1, hln⟩, h2⟩

/-! What the laws' own helpers return. -/
theorem Rd.dn {W : World} {v : Value} {l : List Int} (h : Rd W v l) (n : Nat) : Rd (W.drewN n) v l := h.below (pw_below_drewN (Below.refl _ _) n)
theorem hSame_sem {W : World} {v v2 : Value} {l l2 : List Int} (h : Rd W v l) (h2 : Rd W v2 l2) (b : Bool) (hb : decide (l = l2) = b) : Calls Try.prog 46 #[v, v2] W fun e W' => e = .returned (.bool b) ∧ Below W.heap.size W W' := by
  obtain ⟨A, c, rfl, hc, hC, hl⟩ := h
  obtain ⟨A2, c2, rfl, hc2, hC2, hl2⟩ := h2
  obtain ⟨K, hK⟩ := ev_get (laws_hSame.ev l l2 (by omega))
  exact (laws_hSame.calls K A c l A2 c2 l2 b W hC hc hC2 hc2 ((hK K (Nat.le_refl _)).trans (by rw [hb]))).mono fun _ _ ⟨he, hn⟩ => ⟨he, Drawn0.below hn⟩
end Go.Proofs.Ytlioggjncgfioaa.Draw
