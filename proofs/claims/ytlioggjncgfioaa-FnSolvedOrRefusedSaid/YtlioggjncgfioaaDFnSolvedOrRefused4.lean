/- What is drawn for FnSolvedOrRefused: within bounds, whatever it is. -/
import Derived.Test.YtlioggjncgfioaaPFnSolvedOrRefusedx
import Derived.Test.YtlioggjncgfioaaQFnSolvedOrRefused0
import Derived.Test.YtlioggjncgfioaaQFnSolvedOrRefused1
import Derived.Test.YtlioggjncgfioaaM1
import Derived.Test.YtlioggjncgfioaaM28
import Derived.WalkKit
import Derived.RowKit3
import Derived.Deep.QuietTactic
import Derived.BigQuiet
import Derived.Deep.DeepCutAuto
import Derived.Deep.CutBlock
import Derived.Deep.LoopGhost
import Derived.Outline
import Derived.Deep.DeepFit
import Derived.Test.YtlioggjncgfioaaDFnSolvedOrRefused0
import Derived.Test.YtlioggjncgfioaaDFnSolvedOrRefused1
import Derived.Test.YtlioggjncgfioaaDFnSolvedOrRefused2
import Derived.Test.YtlioggjncgfioaaDFnSolvedOrRefused3
namespace Go.Proofs.Ytlioggjncgfioaa.Draw
open Go.RowKit Go.Proofs.Ytlioggjncgfioaa.PFnSolvedOrRefused Go.Proofs.YtlioggjncgfioaaW.PrintWords Go.Proofs.YtlioggjncgfioaaW.PrintLast Go.Proofs.YtlioggjncgfioaaW.PrintMore Go.Proofs.YtlioggjncgfioaaM Go.Proofs.Ytlioggjncgfioaa.Pure
attribute [local go_sem] max2_int min2_int max_two min_two max_three min_three max_four min_four
set_option linter.unusedVariables false
set_option linter.unusedSimpArgs false
variable {w0 w w1 W : World} {g : Nat} {a : Int}
/-! Lights that are drawn, mostly such as can be solved. -/
theorem spec_grSet_any {W : World} {v : Value} {l : List Int} (own : Bool) (s : Int) {b : Bool} (h : Rd W v l) (hb : boardOk l s = b) : Calls Try.prog 70 #[.agg #[v, .bool own], .int .i64 s] W fun e W' => e = .returned (.bool b) ∧ Below W.heap.size W W' := by
  obtain ⟨A, c, rfl, hc, hC, hl⟩ := h
  obtain ⟨K, hK⟩ := ev_get (spec_grSet.ev l own s (by omega))
  exact spec_grSet.calls K A c l own s b W hC hc ((hK K (Nat.le_refl _)).trans (by rw [← hb]; rfl))
theorem spec_grEffect_any {W : World} {v : Value} {l : List Int} (own : Bool) (s : Int) (h : Rd W v l) (hb : boardOk l s = true) : Calls Try.prog 112 #[.agg #[v, .bool own], .int .i64 s] W fun e W' => ∃ x, e = .returned (.int .i64 x) ∧ Below W.heap.size W W' := by
  obtain ⟨A, c, rfl, hc, hC, hl⟩ := h
  obtain ⟨hG, hs⟩ := boardOk_of hb
  obtain ⟨h0, h1, h2⟩ := inSet_lt hs
  have hp := pow_cast l.length
  obtain ⟨K, hK⟩ := ev_get (spec_grEffect.ev l own hG s h0 (by omega))
  exact (spec_grEffect.calls K A c l own s _ W hC hc (hK K (Nat.le_refl _))).mono fun _ _ ⟨he, h1⟩ => ⟨_, he, h1⟩
set_option maxRecDepth 100000 in
set_option maxHeartbeats 8000000 in
theorem solvable_any {A : Option Addr} {c lo hi : Nat} {l : List Int} (own : Bool) (w : World) (hc : Cur w0 g a w) (ha : a ≤ 144115188075855872) (hr : Own w lo hi (.slice A l.length c) l) (hRg : g < lo) (hl : l.length ≤ 17) : Calls Try.prog 98 #[.pointer (some ⟨g, 0, none⟩), .agg #[.slice A l.length c, .bool own]] w (SetP w0 w g (a + 20)) := by
  have hu := Try.underlying29
  have hgl := hc.lt
  have HC := Aside0.mk (hc.alloc (.cells #[.slice A l.length c, .bool own] 29))
  have HK := Aside0.mk (keep_alloc (KeepBut.refl w g none) (.cells #[.slice A l.length c, .bool own] 29))
  have X := Aside0.mk (blk_new w (.cells #[.slice A l.length c, .bool own] 29))
  have R := Aside0.mk (hr.alloc (.cells #[.slice A l.length c, .bool own] 29))
  have hXg : w.heap.size ≠ g := by omega
  clear hc hr
  go_enter Try.func98, Try.ntmps98
  go_upto_region 1 with (fail)
  generalize w.alloc (.cells #[.slice A l.length c, .bool own] 29) = w1 at *
  (try clear hX0 hX1 fX0 fX1); have hX0 := (blk_cell X.out 0).trans rfl; have hX1 := (blk_cell X.out 1).trans rfl; have fX0 := blk_frozen X.out 0; have fX1 := blk_frozen X.out 1
  go_upto_region 2 with (go_at_call 111; (with_reducible refine (set_any own _ HC.out (by omega) (by omega)).mono ?_); rintro e w2 ⟨s, rfl, hc, hk⟩; have nHC := Aside0.mk hc; have nHK := Aside0.mk ((HK.out).trans hk (.inl rfl)); have nX := Aside0.mk (hk.blk (X.out) hXg (by simp)); have nR := Aside0.mk (Own.keep (R.out) hk hRg); (try clear hX0 hX1 fX0 fX1); (try clear hb); (try clear ho); (try clear hc hk); clear HC HK X R; have HC := nHC; clear nHC; have HK := nHK; clear nHK; have X := nX; clear nX; have R := nR; clear nR; (try clear hX0 hX1 fX0 fX1); have hX0 := (blk_cell X.out 0).trans rfl; have hX1 := (blk_cell X.out 1).trans rfl; have fX0 := blk_frozen X.out 0; have fX1 := blk_frozen X.out 1)
  obtain ⟨sb, hq_⟩ : ∃ r, (boardOk l s) = r := ⟨_, rfl⟩; have SB := Aside0.mk hq_; clear hq_
  cases sb
  · go_wp2_with (go_at_call 70; (with_reducible refine (spec_grSet_any own s (R.out.rd (by omega)) SB.out).mono ?_); rintro e w3 ⟨rfl, hb⟩; have hc := HC.out.below hb; have hk := HC.out.keepB hb; have nHC := Aside0.mk hc; have nHK := Aside0.mk ((HK.out).trans hk (.inl rfl)); have nX := Aside0.mk (hk.blk (X.out) hXg (by simp)); have nR := Aside0.mk (Own.keep (R.out) hk hRg); (try clear hX0 hX1 fX0 fX1); (try clear hb); (try clear ho); (try clear hc hk); clear HC HK X R; have HC := nHC; clear nHC; have HK := nHK; clear nHK; have X := nX; clear nX; have R := nR; clear nR; (try clear hX0 hX1 fX0 fX1); have hX0 := (blk_cell X.out 0).trans rfl; have hX1 := (blk_cell X.out 1).trans rfl; have fX0 := blk_frozen X.out 0; have fX1 := blk_frozen X.out 1)
    go_ret
    exact ⟨_, rfl, HC.out.le (by omega), HK.out⟩
  · go_upto_if 16 with (first
      | (go_at_call 70; (with_reducible refine (spec_grSet_any own s (R.out.rd (by omega)) SB.out).mono ?_); rintro e w3 ⟨rfl, hb⟩; have hc := HC.out.below hb; have hk := HC.out.keepB hb; have nHC := Aside0.mk hc; have nHK := Aside0.mk ((HK.out).trans hk (.inl rfl)); have nX := Aside0.mk (hk.blk (X.out) hXg (by simp)); have nR := Aside0.mk (Own.keep (R.out) hk hRg); (try clear hX0 hX1 fX0 fX1); (try clear hb); (try clear ho); (try clear hc hk); clear HC HK X R; have HC := nHC; clear nHC; have HK := nHK; clear nHK; have X := nX; clear nX; have R := nR; clear nR; (try clear hX0 hX1 fX0 fX1); have hX0 := (blk_cell X.out 0).trans rfl; have hX1 := (blk_cell X.out 1).trans rfl; have fX0 := blk_frozen X.out 0; have fX1 := blk_frozen X.out 1)
      | (go_at_call 48; (with_reducible refine (one_any _ _ HC.out (by omega)).mono ?_); rintro e w4 ⟨b, rfl, hc, hk⟩; have nHC := Aside0.mk hc; have nHK := Aside0.mk ((HK.out).trans hk (.inl rfl)); have nX := Aside0.mk (hk.blk (X.out) hXg (by simp)); have nR := Aside0.mk (Own.keep (R.out) hk hRg); (try clear hX0 hX1 fX0 fX1); (try clear hb); (try clear ho); (try clear hc hk); clear HC HK X R; have HC := nHC; clear nHC; have HK := nHK; clear nHK; have X := nX; clear nX; have R := nR; clear nR; (try clear hX0 hX1 fX0 fX1); have hX0 := (blk_cell X.out 0).trans rfl; have hX1 := (blk_cell X.out 1).trans rfl; have fX0 := blk_frozen X.out 0; have fX1 := blk_frozen X.out 1))
    cases b
    · go_wp2_with (go_at_call 112; (with_reducible refine (spec_grEffect_any own s (R.out.rd (by omega)) SB.out).mono ?_); rintro e w5 ⟨x, rfl, hb⟩; have hc := HC.out.below hb; have hk := HC.out.keepB hb; have nHC := Aside0.mk hc; have nHK := Aside0.mk ((HK.out).trans hk (.inl rfl)); have nX := Aside0.mk (hk.blk (X.out) hXg (by simp)); have nR := Aside0.mk (Own.keep (R.out) hk hRg); (try clear hX0 hX1 fX0 fX1); (try clear hb); (try clear ho); (try clear hc hk); clear HC HK X R; have HC := nHC; clear nHC; have HK := nHK; clear nHK; have X := nX; clear nX; have R := nR; clear nR; (try clear hX0 hX1 fX0 fX1); have hX0 := (blk_cell X.out 0).trans rfl; have hX1 := (blk_cell X.out 1).trans rfl; have fX0 := blk_frozen X.out 0; have fX1 := blk_frozen X.out 1)
      go_ret
      exact ⟨_, rfl, HC.out.le (by omega), HK.out⟩
    · go_wp2
      go_ret
      exact ⟨_, rfl, HC.out.le (by omega), HK.out⟩
set_option maxRecDepth 100000 in
set_option maxHeartbeats 8000000 in
theorem DrawCanSolve_any {W : World} {v : Value} {l0 : List Int} (h : Rb W v l0) : Calls Try.prog 66 #[v] W (DrawGSP W) := by
  obtain ⟨A, c, rfl, hcl, hr, hx⟩ := h
  have hu := Try.underlying29
  have huc := Try.underlying53
  have HW := Aside0.mk (below_alloc (Below.refl W.heap.size W) (.cells #[.slice none 0 0, .bool false] 29))
  have X := Aside0.mk (blk_new W (.cells #[.slice none 0 0, .bool false] 29))
  have HR0 := Aside0.mk (Kd.C_alloc hr (.cells #[.slice none 0 0, .bool false] 29))
  have HXX := Aside0.mk hx
  clear hr hx hcl
  go_enter Try.func66, Try.ntmps66
  go_upto_region 1 with (fail)
  generalize W.alloc (.cells #[.slice none 0 0, .bool false] 29) = w1 at *
  have HC := Aside0.mk (Cur.new w1 A c l0 HR0.out HXX.out)
  have hXg := Nat.ne_of_lt (blk_lt X.out)
  have hXl := blk_lt X.out
  have hRg : w1.heap.size < (w1.alloc (Obj.cells #[Value.slice A l0.length c, Value.int IntKind.i64 0, Value.int IntKind.u64 0] 53)).heap.size := by simp
  go_upto_region 3 with (go_at_call 88; (with_reducible refine (graph_any _ _ HC.out (by omega) (by omega) (by omega)).mono ?_); rintro e w2 ⟨z, l, own, rfl, hr, hll, hc, hk⟩; obtain ⟨A2, c2, rfl⟩ := Kd.R_slice hr; have nR := Aside0.mk hr; clear hr; have hXx := blk_alloc X.out (.cells #[.slice A l0.length c, .int .i64 0, .int .u64 0] 53); have nX := Aside0.mk (hk.blk hXx hXg (by simp)); have nC := Aside0.mk hc; have hYG := hc.lt; clear hc hk hXx HC X; have HC := nC; have X := nX; have R := nR; clear nC nX nR)
  have hY2 := blk_lt X.out
  have nY := Aside0.mk (blk_new w2 (.cells #[.slice A2 l.length c2, .bool own] 29)); have nC := Aside0.mk (HC.out.alloc (.cells #[.slice A2 l.length c2, .bool own] 29)); have nX := Aside0.mk (blk_alloc X.out (.cells #[.slice A2 l.length c2, .bool own] 29)); have nR := Aside0.mk (Kd.R_alloc R.out (.cells #[.slice A2 l.length c2, .bool own] 29)); clear HC X R; generalize World.alloc w2 (.cells #[.slice A2 l.length c2, .bool own] 29) = w3 at *; have HC := nC; clear nC; have hYg : w2.heap.size ≠ _ := Nat.ne_of_gt hYG; have Y := nY; clear nY; have X := nX; clear nX; have R := nR; clear nR
  (try clear hY0 hY1 fY0 fY1); have hY0 := (blk_cell Y.out 0).trans rfl; have hY1 := (blk_cell Y.out 1).trans rfl; have fY0 := blk_frozen Y.out 0; have fY1 := blk_frozen Y.out 1
  have hRo := Aside0.mk (Own.of R.out)
  clear R
  have R := hRo
  clear hRo
  go_region_held3 (fun w' => w'.cell? ⟨w2.heap.size, 0, none⟩ = some (.slice A2 l.length c2) ∧ w'.cell? ⟨w2.heap.size, 1, none⟩ = some (.bool own)) (first | exact ⟨hY0, hY1⟩ | exact ⟨cell_far2 hY0 (by simp only; omega), cell_far2 hY1 (by simp only; omega)⟩ | exact ⟨cell_far2 (cell_far2 hY0 (by simp only; omega)) (by simp only; omega), cell_far2 (cell_far2 hY1 (by simp only; omega)) (by simp only; omega)⟩ | go_keep) (first
    | (go_at_call 98; (with_reducible refine (solvable_any own _ HC.out.drew (by omega) R.out.drew hRg (by omega)).mono ?_); rintro e w4 ⟨a4, rfl, hc, hk⟩; have nHC := Aside0.mk hc; have nX := Aside0.mk (hk.blk (blk_drew X.out) hXg (by simp)); have nY := Aside0.mk (hk.blk (blk_drew Y.out) hYg (by simp)); have nR := Aside0.mk (Own.keep (Own.drew R.out) hk hRg); (try clear hY0 hY1 fY0 fY1); (try clear hX0 hX1 fX0 fX1); (try clear hb); (try clear ho); (try clear hc hk); clear HC X Y R; have HC := nHC; clear nHC; have X := nX; clear nX; have Y := nY; clear nY; have R := nR; clear nR; (try clear hY0 hY1 fY0 fY1); have hY0 := (blk_cell Y.out 0).trans rfl; have hY1 := (blk_cell Y.out 1).trans rfl; have fY0 := blk_frozen Y.out 0; have fY1 := blk_frozen Y.out 1; (try clear hX0 hX1 fX0 fX1); have hX0 := (blk_cell X.out 0).trans rfl; have hX1 := (blk_cell X.out 1).trans rfl; have fX0 := blk_frozen X.out 0; have fX1 := blk_frozen X.out 1)
    | (go_at_call 98; (with_reducible refine (solvable_any own _ HC.out (by omega) R.out hRg (by omega)).mono ?_); rintro e w4 ⟨a4, rfl, hc, hk⟩; have nHC := Aside0.mk hc; have nX := Aside0.mk (hk.blk (X.out) hXg (by simp)); have nY := Aside0.mk (hk.blk (Y.out) hYg (by simp)); have nR := Aside0.mk (Own.keep (R.out) hk hRg); (try clear hY0 hY1 fY0 fY1); (try clear hX0 hX1 fX0 fX1); (try clear hb); (try clear ho); (try clear hc hk); clear HC X Y R; have HC := nHC; clear nHC; have X := nX; clear nX; have Y := nY; clear nY; have R := nR; clear nR; (try clear hY0 hY1 fY0 fY1); have hY0 := (blk_cell Y.out 0).trans rfl; have hY1 := (blk_cell Y.out 1).trans rfl; have fY0 := blk_frozen Y.out 0; have fY1 := blk_frozen Y.out 1; (try clear hX0 hX1 fX0 fX1); have hX0 := (blk_cell X.out 0).trans rfl; have hX1 := (blk_cell X.out 1).trans rfl; have fX0 := blk_frozen X.out 0; have fX1 := blk_frozen X.out 1))
  (go_wp2; refine bodyPost_ret (results_ct rfl _ _ W.heap.size 29 _ (0, 0) _ rfl (put2_blk X.out _ _) Try.underlying29 rfl (by kernel_rfl)) rfl ?_; exact ⟨_, l, own, _, rfl, ⟨Kd.R_lower (row_far (row_far R.out (p := ⟨W.heap.size, 0, none⟩) (by simp only; omega) _) (p := ⟨W.heap.size, 1, none⟩) (by simp only; omega) _) (by omega), by omega⟩, below_set (below_set (below_step HW.out HC.out.base) (Nat.le_refl _)) (Nat.le_refl _)⟩)
set_option maxRecDepth 100000 in
set_option maxHeartbeats 8000000 in
theorem DrawSolveBoard_any {W : World} {v : Value} {l0 : List Int} (h : Rb W v l0) : Calls Try.prog 27 #[v] W (DrawGSP W) := by
  have hu := Try.underlying29
  have HW := Aside0.mk (below_alloc (Below.refl W.heap.size W) (.cells #[.slice none 0 0, .bool false] 29))
  have X := Aside0.mk (blk_new W (.cells #[.slice none 0 0, .bool false] 29))
  have H := Aside0.mk (h.below HW.out)
  obtain ⟨A, c, rfl, _⟩ := h
  go_enter Try.func27, Try.ntmps27
  go_upto_region 1 with (fail)
  generalize W.alloc (.cells #[.slice none 0 0, .bool false] 29) = w1 at *
  have hXl := blk_lt X.out
  go_wp2_with (go_at_call 66; (with_reducible refine (DrawCanSolve_any H.out).mono ?_); rintro e w2 ⟨u, l, own, a, rfl, hr, hb⟩; obtain ⟨A2, c2, rfl⟩ := hr.slice; have R := Aside0.mk hr; have nX := Aside0.mk (blk_below X.out hb); have nW := Aside0.mk (below_step HW.out hb); clear hr hb X HW; have X := nX; have HW := nW; clear nX nW; (try clear hX0 hX1 fX0 fX1); have hX0 := (blk_cell X.out 0).trans rfl; have hX1 := (blk_cell X.out 1).trans rfl; have fX0 := blk_frozen X.out 0; have fX1 := blk_frozen X.out 1)
  refine bodyPost_ret (results_ct rfl _ _ W.heap.size 29 _ (0, 0) _ rfl (put2_blk X.out _ _) Try.underlying29 rfl (by kernel_rfl)) rfl ?_
  exact ⟨_, l, own, _, rfl, ⟨Kd.R_lower (row_far (row_far R.out.1 (p := ⟨W.heap.size, 0, none⟩) hXl _) (p := ⟨W.heap.size, 1, none⟩) hXl _) (Nat.le_of_lt hXl), R.out.2⟩, below_set (below_set HW.out (Nat.le_refl _)) (Nat.le_refl _)⟩


/-! What solving returns. -/
theorem spec_SolveBoard.sem {W : World} {v : Value} {l : List Int} (own : Bool) (s : Int) {x : Int} {ok : Bool} (h : Rd W v l) (hr : solveR l own s = (x, ok)) : Calls Try.prog 29 #[.agg #[v, .bool own], .int .i64 s] W fun e W' => e = .returned (.tuple #[.int .i64 x, .bool ok]) ∧ Below W.heap.size W W' := by
  obtain ⟨A, c, rfl, hc, hC, hl⟩ := h
  obtain ⟨K, hK⟩ := ev_get (spec_SolveBoard.ev l own s (by omega))
  exact spec_SolveBoard.calls K A c l own s x ok W hC hc ((hK K (Nat.le_refl _)).trans (by first | rw [hr] | (rw [← hr]; rfl)))

theorem spec_WitnessOf.sem {W : World} {v : Value} {l : List Int} (own : Bool) (s : Int) {x : Int} {ok : Bool} (h : Rd W v l) (hr : witR l own s = (x, ok)) : Calls Try.prog 31 #[.agg #[v, .bool own], .int .i64 s] W fun e W' => e = .returned (.tuple #[.int .i64 x, .bool ok]) ∧ Below W.heap.size W W' := by
  obtain ⟨A, c, rfl, hc, hC, hl⟩ := h
  obtain ⟨K, hK⟩ := ev_get (spec_WitnessOf.ev l own s (by omega))
  exact spec_WitnessOf.calls K A c l own s x ok W hC hc ((hK K (Nat.le_refl _)).trans (by first | rw [hr] | (rw [← hr]; rfl)))

theorem spec_CountSolutions.sem {W : World} {v : Value} {l : List Int} (own : Bool) (s : Int) {x : Int} {ok : Bool} (h : Rd W v l) (hr : countR l own s = (x, ok)) : Calls Try.prog 35 #[.agg #[v, .bool own], .int .i64 s] W fun e W' => e = .returned (.tuple #[.int .i64 x, .bool ok]) ∧ Below W.heap.size W W' := by
  obtain ⟨A, c, rfl, hc, hC, hl⟩ := h
  obtain ⟨K, hK⟩ := ev_get (spec_CountSolutions.ev l own s (by omega))
  exact spec_CountSolutions.calls K A c l own s x ok W hC hc ((hK K (Nat.le_refl _)).trans (by first | rw [hr] | (rw [← hr]; rfl)))

theorem impl_EffectOf.sem {W : World} {v : Value} {l : List Int} (own : Bool) (p : Int) {x : Int} {ok : Bool} (h : Rd W v l) (hr : pressAll l own 0 p = (x, ok)) : Calls Try.prog 23 #[.agg #[v, .bool own], .int .i64 p] W fun e W' => e = .returned (.tuple #[.int .i64 x, .bool ok]) ∧ Below W.heap.size W W' := by
  obtain ⟨A, c, rfl, hc, hC, hl⟩ := h
  obtain ⟨K, hK⟩ := ev_get (impl_EffectOf.ev l own p)
  exact impl_EffectOf.calls K A c l own p x ok W hC hc ((hK K (Nat.le_refl _)).trans (by first | rw [hr] | (rw [← hr]; rfl)))

theorem impl_PressAll.sem {W : World} {v : Value} {l : List Int} (own : Bool) (s : Int) (p : Int) {x : Int} {ok : Bool} (h : Rd W v l) (hr : pressAll l own s p = (x, ok)) : Calls Try.prog 36 #[.agg #[v, .bool own], .int .i64 s, .int .i64 p] W fun e W' => e = .returned (.tuple #[.int .i64 x, .bool ok]) ∧ Below W.heap.size W W' := by
  obtain ⟨A, c, rfl, hc, hC, hl⟩ := h
  obtain ⟨K, hK⟩ := ev_get (impl_PressAll.ev l own s p)
  exact impl_PressAll.calls K A c l own s p x ok W hC hc ((hK K (Nat.le_refl _)).trans (by first | rw [hr] | (rw [← hr]; rfl)))

theorem spec_CanSolve.sem {W : World} {v : Value} {l : List Int} (own : Bool) (s : Int) {x ok : Bool} (h : Rd W v l) (hr : canR l own s = (x, ok)) : Calls Try.prog 33 #[.agg #[v, .bool own], .int .i64 s] W fun e W' => e = .returned (.tuple #[.bool x, .bool ok]) ∧ Below W.heap.size W W' := by
  obtain ⟨A, c, rfl, hc, hC, hl⟩ := h
  obtain ⟨K, hK⟩ := ev_get (spec_CanSolve.ev l own s (by omega))
  exact spec_CanSolve.calls K A c l own s x ok W hC hc ((hK K (Nat.le_refl _)).trans (by rw [hr]))
theorem impl_IsQuiet.sem {W : World} {v : Value} {l : List Int} (own : Bool) (s : Int) {x ok : Bool} (h : Rd W v l) (hr : isQuietR l own s = (x, ok)) : Calls Try.prog 37 #[.agg #[v, .bool own], .int .i64 s] W fun e W' => e = .returned (.tuple #[.bool x, .bool ok]) ∧ Below W.heap.size W W' := by
  obtain ⟨A, c, rfl, hc, hC, hl⟩ := h
  obtain ⟨K, hK⟩ := ev_get (impl_IsQuiet.ev l own s)
  exact impl_IsQuiet.calls K A c l own s x ok W hC hc ((hK K (Nat.le_refl _)).trans (by rw [hr]))
end Go.Proofs.Ytlioggjncgfioaa.Draw
