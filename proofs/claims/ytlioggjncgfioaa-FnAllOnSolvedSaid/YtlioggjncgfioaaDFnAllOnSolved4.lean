/- What is drawn for FnAllOnSolved: within bounds, whatever it is. -/
import Derived.Test.YtlioggjncgfioaaPFnAllOnSolvedx
import Derived.Test.YtlioggjncgfioaaQFnAllOnSolved0
import Derived.Test.YtlioggjncgfioaaQFnAllOnSolved1
import Derived.Test.YtlioggjncgfioaaM1
import Derived.Test.YtlioggjncgfioaaM30
import Derived.WalkKit
import Derived.RowKit3
import Derived.Deep.QuietTactic
import Derived.BigQuiet
import Derived.Deep.DeepCutAuto
import Derived.Deep.CutBlock
import Derived.Deep.LoopGhost
import Derived.Outline
import Derived.Deep.DeepFit
import Derived.Test.YtlioggjncgfioaaDFnAllOnSolved0
import Derived.Test.YtlioggjncgfioaaDFnAllOnSolved1
import Derived.Test.YtlioggjncgfioaaDFnAllOnSolved2
import Derived.Test.YtlioggjncgfioaaDFnAllOnSolved3
namespace Go.Proofs.Ytlioggjncgfioaa.Draw
open Go.RowKit Go.Proofs.Ytlioggjncgfioaa.PFnAllOnSolved Go.Proofs.YtlioggjncgfioaaW.PrintWords Go.Proofs.YtlioggjncgfioaaW.PrintLast Go.Proofs.YtlioggjncgfioaaW.PrintMore Go.Proofs.YtlioggjncgfioaaM Go.Proofs.Ytlioggjncgfioaa.Pure
attribute [local go_sem] max2_int min2_int max_two min_two max_three min_three max_four min_four
set_option linter.unusedVariables false
set_option linter.unusedSimpArgs false
variable {w0 w w1 W : World} {g : Nat} {a : Int}
/-! All lights at once, the basis of quiet sets, and graphs that are drawn. -/
theorem whole_any (W : World) (n : Nat) (h : n ≤ 62) : Calls Try.prog 60 #[.int .i64 (n : Int)] W fun e W' => e = .returned (.int .i64 ((2 ^ n - 1 : Nat) : Int)) ∧ ∃ k, W' = W.drewN k :=
  (impl_whole.calls (n : Int) _ W (impl_whole.eq (n : Int) (by omega) (by omega))).mono fun _ _ ⟨he, hn⟩ => ⟨he.trans (by
    have hp := Nat.two_pow_pos n
    have hc := pow_cast n
    rw [Int.toNat_natCast, show (2 : Int) ^ n - 1 = ((2 ^ n - 1 : Nat) : Int) by omega]), hn.out⟩
set_option maxRecDepth 100000 in
set_option maxHeartbeats 4000000 in
theorem AllOn_any {W : World} {v : Value} {l : List Int} (own : Bool) {x : Int} {ok : Bool} (h : Rd W v l) (hr : allR l own = (x, ok)) : Calls Try.prog 19 #[.agg #[v, .bool own]] W fun e W' => e = .returned (.tuple #[.int .i64 x, .bool ok]) ∧ Below W.heap.size W W' := by
  have hu := Try.underlying29
  obtain ⟨A, c, rfl⟩ := h.slice
  have HB := Aside0.mk (below_alloc (Below.refl W.heap.size W) (.cells #[.slice A l.length c, .bool own] 29 (0, 0)))
  have X := Aside0.mk (blk_new W (.cells #[.slice A l.length c, .bool own] 29 (0, 0)))
  have R := Aside0.mk (h.alloc (.cells #[.slice A l.length c, .bool own] 29 (0, 0)))
  clear h
  obtain ⟨m, hm, hm2, HS⟩ : ∃ m : Nat, m ≤ 16 ∧ m = min l.length 16 ∧ Aside0 (solveR l own ((2 ^ m - 1 : Nat) : Int) = (x, ok)) := by
    refine ⟨min l.length 16, by omega, rfl, ⟨?_⟩⟩
    cases e : good l
    · obtain ⟨h1, h2⟩ := allR_bad (l := l) own ((2 ^ min l.length 16 - 1 : Nat) : Int) e
      rw [h1, ← h2, hr]
    · have := ((good_iff l).1 e).top
      rw [show min l.length 16 = l.length by omega, ← allR_solve, hr]
  clear hr
  have hmin : (if 16 < (l.length : Int) then 16 else (l.length : Int)) = (m : Int) := by split <;> omega
  clear hm2
  go_enter Try.func19, Try.ntmps19
  go_upto_region 1 with (fail)
  generalize W.alloc (.cells #[.slice A l.length c, .bool own] 29 (0, 0)) = w1 at *
  (try clear hX0 hX1 fX0 fX1); have hX0 := (blk_cell X.out 0).trans rfl; have hX1 := (blk_cell X.out 1).trans rfl; have fX0 := blk_frozen X.out 0; have fX1 := blk_frozen X.out 1
  go_region_held3 (fun w' => w'.cell? ⟨W.heap.size, 0, none⟩ = some (.slice A l.length c) ∧ w'.cell? ⟨W.heap.size, 1, none⟩ = some (.bool own)) (first | exact ⟨hX0, hX1⟩ | go_keep) (first
    | (go_at_call 60; (with_reducible refine (whole_any _ m (by omega)).mono ?_); rintro e w2 ⟨rfl, k, rfl⟩; have hb := below_step (below_drew1 (Below.refl w1.heap.size w1)) (pw_below_drewN (Below.refl _ _) k); generalize w1.drew.drewN k = w2 at *; have nX := Aside0.mk (blk_below X.out hb); have nR := Aside0.mk (R.out.below hb); have nB := Aside0.mk (below_step HB.out hb); clear X HB R hb hX0 hX1 fX0 fX1; have X := nX; have R := nR; have HB := nB; clear nX nR nB; (try clear hX0 hX1 fX0 fX1); have hX0 := (blk_cell X.out 0).trans rfl; have hX1 := (blk_cell X.out 1).trans rfl; have fX0 := blk_frozen X.out 0; have fX1 := blk_frozen X.out 1)
    | (go_at_call 28; (with_reducible refine (SolveBoard_any own _ R.out HS.out).mono ?_); rintro e w3 ⟨rfl, hb⟩; have nX := Aside0.mk (blk_below X.out hb); have nR := Aside0.mk (R.out.below hb); have nB := Aside0.mk (below_step HB.out hb); clear X HB R hb hX0 hX1 fX0 fX1; have X := nX; have R := nR; have HB := nB; clear nX nR nB; (try clear hX0 hX1 fX0 fX1); have hX0 := (blk_cell X.out 0).trans rfl; have hX1 := (blk_cell X.out 1).trans rfl; have fX0 := blk_frozen X.out 0; have fX1 := blk_frozen X.out 1))
  go_wp2
  go_ret2
  exact ⟨rfl, HB.out⟩
set_option maxRecDepth 100000 in
set_option maxHeartbeats 4000000 in
theorem QuietBasis_any {W : World} {v : Value} {l : List Int} (own : Bool) {b : Bool} (h : Rd W v l) (hb : good l = b) :
    Calls Try.prog 24 #[.agg #[v, .bool own]] W fun e W' => ∃ u, e = .returned (.tuple #[u, .bool b]) ∧ (b = true → Rd W' u (ints (svG l own).quiet)) ∧ Below W.heap.size W W' := by
  have hu := Try.underlying29
  have hu2 := Try.underlying60
  obtain ⟨A, c, rfl⟩ := h.slice
  have HB := Aside0.mk (below_alloc (Below.refl W.heap.size W) (.cells #[.slice A l.length c, .bool own] 29 (0, 0)))
  have X := Aside0.mk (blk_new W (.cells #[.slice A l.length c, .bool own] 29 (0, 0)))
  have R := Aside0.mk (h.alloc (.cells #[.slice A l.length c, .bool own] 29 (0, 0)))
  have HG := Aside0.mk hb
  clear h hb
  go_enter Try.func24, Try.ntmps24
  go_upto_region 1 with (fail)
  generalize W.alloc (.cells #[.slice A l.length c, .bool own] 29 (0, 0)) = w1 at *
  (try clear hX0 hX1 fX0 fX1); have hX0 := (blk_cell X.out 0).trans rfl; have hX1 := (blk_cell X.out 1).trans rfl; have fX0 := blk_frozen X.out 0; have fX1 := blk_frozen X.out 1
  cases b
  · go_wp2_with (go_at_call 54; (with_reducible refine (isGraph_any own R.out HG.out).mono ?_); rintro e w2 ⟨rfl, hb⟩; have nB := Aside0.mk (below_step HB.out hb); clear X HB R hb hX0 hX1 fX0 fX1; have HB := nB; clear nB)
    go_ret2
    refine ⟨_, rfl, ?_, HB.out⟩
    intro h
    cases h
  · have hG := (good_iff l).1 HG.out
    have HGG := Aside0.mk hG
    have hql : (svG l own).quiet.length ≤ 16 := by
      have h1 := (inv_graph hG own).rq
      have h2 := hG.top
      show (svOf (togs l own)).quiet.length ≤ 16
      omega
    clear hG
    go_wp2_with (first
      | (go_at_call 54; (with_reducible refine (isGraph_any own R.out HG.out).mono ?_); rintro e w2 ⟨rfl, hb⟩; have nX := Aside0.mk (blk_below X.out hb); have nR := Aside0.mk (R.out.below hb); have nB := Aside0.mk (below_step HB.out hb); clear X HB R hb hX0 hX1 fX0 fX1; have X := nX; have R := nR; have HB := nB; clear nX nR nB; (try clear hX0 hX1 fX0 fX1); have hX0 := (blk_cell X.out 0).trans rfl; have hX1 := (blk_cell X.out 1).trans rfl; have fX0 := blk_frozen X.out 0; have fX1 := blk_frozen X.out 1)
      | (go_at_call 55; (with_reducible refine (solverOf_any own R.out HGG.out).mono ?_); rintro e w3 ⟨bs, rfl, hle, hs, hb⟩; have hs2 : SvAt w3 bs (svG l own) := hs; obtain ⟨vp, vq, vi, hS, hP, hQ, hI⟩ := hs2; obtain ⟨Aq, cq, rfl⟩ := Kd.R_slice hQ; have nB := Aside0.mk (below_step HB.out hb); have hS1 := (blk_cell hS 1).trans rfl; have RQ := Aside0.mk (Rd.of hQ (by rw [ints_length]; omega)); clear X HB R hb hs hX0 hX1 fX0 fX1 hS hP hQ hI; have HB := nB; clear nB))
    go_ret2
    refine ⟨_, rfl, ?_, HB.out⟩
    first | exact RQ.out | exact fun _ => RQ.out
set_option maxRecDepth 100000 in
set_option maxHeartbeats 8000000 in
theorem DrawIsGraph_any {W : World} {v : Value} {l0 : List Int} (h : Rb W v l0) : Calls Try.prog 59 #[v] W (DrawGP W) := by
  obtain ⟨A, c, rfl, hcl, hr, hx⟩ := h
  have hu := Try.underlying29
  have huc := Try.underlying53
  have HW := Aside0.mk (below_alloc (Below.refl W.heap.size W) (.cells #[.slice none 0 0, .bool false] 29))
  have X := Aside0.mk (blk_new W (.cells #[.slice none 0 0, .bool false] 29))
  have HR0 := Aside0.mk (Kd.C_alloc hr (.cells #[.slice none 0 0, .bool false] 29))
  have HXX := Aside0.mk hx
  clear hr hx hcl
  go_enter Try.func59, Try.ntmps59
  go_upto_region 1 with (fail)
  generalize W.alloc (.cells #[.slice none 0 0, .bool false] 29) = w1 at *
  have HC := Aside0.mk (Cur.new w1 A c l0 HR0.out HXX.out)
  have hXg := Nat.ne_of_lt (blk_lt X.out)
  have hXl := blk_lt X.out
  have hRg : w1.heap.size < (w1.alloc (Obj.cells #[Value.slice A l0.length c, Value.int IntKind.i64 0, Value.int IntKind.u64 0] 53)).heap.size := by simp
  go_upto_region 2 with (fail)
  have nX := Aside0.mk (blk_alloc X.out (.cells #[.slice A l0.length c, .int .i64 0, .int .u64 0] 53))
  clear X
  have X := nX
  clear nX
  generalize World.alloc w1 (.cells #[.slice A l0.length c, .int .i64 0, .int .u64 0] 53) = w1s at *
  go_wp2_with (go_at_call 88; (with_reducible refine (graph_any _ _ HC.out (by omega) (by omega) (by omega)).mono ?_); rintro e w3 ⟨z, l, own, rfl, hr, hll, hc, hk⟩; obtain ⟨A2, c2, rfl⟩ := Kd.R_slice hr; have nX := Aside0.mk (hk.blk X.out hXg (by simp)); have R := Aside0.mk hr; have hW3 := blk_lt X.out; clear HC X hk hr; have HC := Aside0.mk hc; have X := nX; clear hc nX; (try clear hX0 hX1 fX0 fX1); have hX0 := (blk_cell X.out 0).trans rfl; have hX1 := (blk_cell X.out 1).trans rfl; have fX0 := blk_frozen X.out 0; have fX1 := blk_frozen X.out 1)
  go_wp2
  refine bodyPost_ret (results_cell_row rfl _ _ W.heap.size 29 _ (0, 0) _ rfl (put2_blk X.out _ _) Try.underlying29 rfl (by kernel_rfl)) rfl ?_
  exact ⟨_, l, own, rfl, ⟨Kd.R_lower (row_far (row_far R.out (p := ⟨W.heap.size, 0, none⟩) (by simp only; omega) _) (p := ⟨W.heap.size, 1, none⟩) (by simp only; omega) _) (by omega), by omega⟩, below_set (below_set (below_step HW.out HC.out.base) (Nat.le_refl _)) (Nat.le_refl _)⟩
set_option maxRecDepth 100000 in
set_option maxHeartbeats 8000000 in
theorem DrawAllOn_any {W : World} {v : Value} {l0 : List Int} (h : Rb W v l0) : Calls Try.prog 18 #[v] W (DrawGP W) := by
  have hu := Try.underlying29
  have HW := Aside0.mk (below_alloc (Below.refl W.heap.size W) (.cells #[.slice none 0 0, .bool false] 29))
  have X := Aside0.mk (blk_new W (.cells #[.slice none 0 0, .bool false] 29))
  have H := Aside0.mk (h.below HW.out)
  obtain ⟨A, c, rfl, _⟩ := h
  go_enter Try.func18, Try.ntmps18
  go_upto_region 1 with (fail)
  generalize W.alloc (.cells #[.slice none 0 0, .bool false] 29) = w1 at *
  have hXl := blk_lt X.out
  go_wp2_with (go_at_call 59; (with_reducible refine (DrawIsGraph_any H.out).mono ?_); rintro e w2 ⟨u, l, own, rfl, hr, hb⟩; obtain ⟨A2, c2, rfl⟩ := hr.slice; have R := Aside0.mk hr; have nX := Aside0.mk (blk_below X.out hb); have nW := Aside0.mk (below_step HW.out hb); clear hr hb X HW; have X := nX; have HW := nW; clear nX nW; (try clear hX0 hX1 fX0 fX1); have hX0 := (blk_cell X.out 0).trans rfl; have hX1 := (blk_cell X.out 1).trans rfl; have fX0 := blk_frozen X.out 0; have fX1 := blk_frozen X.out 1)
  refine bodyPost_ret (results_cell_row rfl _ _ W.heap.size 29 _ (0, 0) _ rfl (put2_blk X.out _ _) Try.underlying29 rfl (by kernel_rfl)) rfl ?_
  exact ⟨_, l, own, rfl, ⟨Kd.R_lower (row_far (row_far R.out.1 (p := ⟨W.heap.size, 0, none⟩) hXl _) (p := ⟨W.heap.size, 1, none⟩) hXl _) (Nat.le_of_lt hXl), R.out.2⟩, below_set (below_set HW.out (Nat.le_refl _)) (Nat.le_refl _)⟩


/-! What solving returns. -/



theorem impl_EffectOf.sem {W : World} {v : Value} {l : List Int} (own : Bool) (p : Int) {x : Int} {ok : Bool} (h : Rd W v l) (hr : pressAll l own 0 p = (x, ok)) : Calls Try.prog 23 #[.agg #[v, .bool own], .int .i64 p] W fun e W' => e = .returned (.tuple #[.int .i64 x, .bool ok]) ∧ Below W.heap.size W W' := by
  obtain ⟨A, c, rfl, hc, hC, hl⟩ := h
  obtain ⟨K, hK⟩ := ev_get (impl_EffectOf.ev l own p)
  exact impl_EffectOf.calls K A c l own p x ok W hC hc ((hK K (Nat.le_refl _)).trans (by first | rw [hr] | (rw [← hr]; rfl)))

theorem spec_AllOn.sem {W : World} {v : Value} {l : List Int} (own : Bool) {x : Int} {ok : Bool} (h : Rd W v l) (hr : allR l own = (x, ok)) : Calls Try.prog 20 #[.agg #[v, .bool own]] W fun e W' => e = .returned (.tuple #[.int .i64 x, .bool ok]) ∧ Below W.heap.size W W' := by
  obtain ⟨A, c, rfl, hc, hC, hl⟩ := h
  obtain ⟨K, hK⟩ := ev_get (spec_AllOn.ev l own (by omega))
  exact spec_AllOn.calls K A c l own x ok W hC hc ((hK K (Nat.le_refl _)).trans (by first | rw [hr] | (rw [← hr]; rfl)))

theorem impl_TogglesOf.sem {W : World} {v : Value} {l : List Int} (own : Bool) (i : Int) {x : Int} {ok : Bool} (h : Rd W v l) (hr : togglesOf l own i = (x, ok)) : Calls Try.prog 26 #[.agg #[v, .bool own], .int .i64 i] W fun e W' => e = .returned (.tuple #[.int .i64 x, .bool ok]) ∧ Below W.heap.size W W' := by
  obtain ⟨A, c, rfl, hc, hC, hl⟩ := h
  obtain ⟨K, hK⟩ := ev_get (impl_TogglesOf.ev l own i)
  exact impl_TogglesOf.calls K A c l own i x ok W hC hc ((hK K (Nat.le_refl _)).trans (by first | rw [hr] | (rw [← hr]; rfl)))

theorem impl_PressAll.sem {W : World} {v : Value} {l : List Int} (own : Bool) (s : Int) (p : Int) {x : Int} {ok : Bool} (h : Rd W v l) (hr : pressAll l own s p = (x, ok)) : Calls Try.prog 36 #[.agg #[v, .bool own], .int .i64 s, .int .i64 p] W fun e W' => e = .returned (.tuple #[.int .i64 x, .bool ok]) ∧ Below W.heap.size W W' := by
  obtain ⟨A, c, rfl, hc, hC, hl⟩ := h
  obtain ⟨K, hK⟩ := ev_get (impl_PressAll.ev l own s p)
  exact impl_PressAll.calls K A c l own s p x ok W hC hc ((hK K (Nat.le_refl _)).trans (by first | rw [hr] | (rw [← hr]; rfl)))


theorem IsGraph_any {W : World} {v : Value} {l : List Int} (own : Bool) {b : Bool} (h : Rd W v l) (hr : good l = b) : Calls Try.prog 21 #[.agg #[v, .bool own]] W fun e W' => e = .returned (.bool b) ∧ Below W.heap.size W W' := by
  obtain ⟨A, c, rfl, hc, hC, hl⟩ := h
  obtain ⟨K, hK⟩ := ev_get (impl_isGraph.ev l own)
  exact impl_IsGraph.calls K A c l own b W hC hc (by
    have h1 : impl_isGraph.f K l own = some (good l) := hK K (Nat.le_refl _)
    unfold impl_IsGraph.f
    rw [h1, hr]
    rfl)

/-! What the laws' own helpers return. -/
theorem vSize_sem {W : World} (s n : Nat) (hn : n ≤ 60) (h : s < 2 ^ n) : Calls Try.prog 25 #[.int .i64 (s : Int)] W fun e W' => e = .returned (.int .i64 (pop s : Int)) ∧ Below W.heap.size W W' := by
  obtain ⟨K, hK⟩ := ev_get (laws_vSize.ev s n hn h)
  exact (laws_vSize.calls K _ _ W (hK K (Nat.le_refl _))).mono fun _ _ ⟨he, hn⟩ => ⟨he, Drawn0.below hn⟩

end Go.Proofs.Ytlioggjncgfioaa.Draw
