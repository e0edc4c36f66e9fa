/- What is drawn for FnQuietPatterns: within bounds, whatever it is. -/
import Derived.Test.YtjoeakahfomckaaGreatPFnQuietPatternsx
import Derived.Test.YtjoeakahfomckaaGreatQFnQuietPatterns0
import Derived.Test.YtjoeakahfomckaaGreatQFnQuietPatterns1
import Derived.Test.YtjoeakahfomckaaGreatM1
import Derived.Test.YtjoeakahfomckaaGreatM33
import Derived.WalkKit
import Derived.RowKit3
import Derived.Deep.QuietTactic
import Derived.BigQuiet
import Derived.Deep.DeepCutAuto
import Derived.Deep.CutBlock
import Derived.Deep.LoopGhost
import Derived.Outline
import Derived.Deep.DeepFit
import Derived.Test.YtjoeakahfomckaaGreatDFnQuietPatterns0
import Derived.Test.YtjoeakahfomckaaGreatDFnQuietPatterns1
import Derived.Test.YtjoeakahfomckaaGreatDFnQuietPatterns2
import Derived.Test.YtjoeakahfomckaaGreatDFnQuietPatterns3
namespace Go.Proofs.YtjoeakahfomckaaGreat.Draw
open Go.RowKit Go.Proofs.YtjoeakahfomckaaGreat.PFnQuietPatterns Go.Proofs.YtjoeakahfomckaaGreatW.PrintWords Go.Proofs.YtjoeakahfomckaaGreatW.PrintLast Go.Proofs.YtjoeakahfomckaaGreatW.PrintMore Go.Proofs.YtjoeakahfomckaaGreatM Go.Proofs.YtjoeakahfomckaaGreat.Pure
attribute [local go_sem] max2_int min2_int max_two min_two max_three min_three max_four min_four
set_option linter.unusedVariables false
set_option linter.unusedSimpArgs false
variable {w0 w w1 W : World} {g : Nat} {a : Int}
/-! All lights at once, the basis of quiet sets, and graphs that are drawn. -/
theorem whole_any (W : World) (n : Nat) (h : n ≤ 62) : Calls Tryz.prog 49 #[.int .i64 (n : Int)] W fun e W' => e = .returned (.int .i64 ((2 ^ n - 1 : Nat) : Int)) ∧ ∃ k, W' = W.drewN k :=
  (impl_whole.calls (n : Int) _ W (impl_whole.eq (n : Int) (by omega) (by omega))).mono fun _ _ ⟨he, hn⟩ => ⟨he.trans (by
    have hp := Nat.two_pow_pos n
    have hc := pow_cast n
    rw [Int.toNat_natCast, show (2 : Int) ^ n - 1 = ((2 ^ n - 1 : Nat) : Int) by omega]), hn.out⟩
set_option maxRecDepth 100000 in
set_option maxHeartbeats 4000000 in
theorem QuietBasis_any {W : World} {v : Value} {l : List Int} (own : Bool) {b : Bool} (h : Rd W v l) (hb : good l = b) :
    Calls Tryz.prog 7 #[.agg #[v, .bool own]] W fun e W' => ∃ u, e = .returned (.tuple #[u, .bool b]) ∧ (b = true → Rd W' u (ints (svG l own).quiet)) ∧ Below W.heap.size W W' := by
  have hu := Tryz.underlying26
  have hu2 := Tryz.underlying49
  obtain ⟨A, c, rfl⟩ := h.slice
  have HB := Aside0.mk (below_alloc (Below.refl W.heap.size W) (.cells #[.slice A l.length c, .bool own] 26 (0, 0)))
  have X := Aside0.mk (blk_new W (.cells #[.slice A l.length c, .bool own] 26 (0, 0)))
  have R := Aside0.mk (h.alloc (.cells #[.slice A l.length c, .bool own] 26 (0, 0)))
  have HG := Aside0.mk hb
  clear h hb
  go_enter Tryz.func7, Tryz.ntmps7
  go_upto_region 1 with (fail)
  generalize W.alloc (.cells #[.slice A l.length c, .bool own] 26 (0, 0)) = w1 at *
  (try clear hX0 hX1 fX0 fX1); have hX0 := (blk_cell X.out 0).trans rfl; have hX1 := (blk_cell X.out 1).trans rfl; have fX0 := blk_frozen X.out 0; have fX1 := blk_frozen X.out 1
  cases b
  · go_wp2_with (go_at_call 39; (with_reducible refine (isGraph_any own R.out HG.out).mono ?_); rintro e w2 ⟨rfl, hb⟩; have nB := Aside0.mk (below_step HB.out hb); clear X HB R hb hX0 hX1 fX0 fX1; have HB := nB; clear nB)
    go_ret2
    refine ⟨_, rfl, ?_, HB.out⟩
    intro h
    cases h
  · have hG := (good_iff l).1 HG.out
    have HGG := Aside0.mk hG
    have hql : (svG l own).quiet.length ≤ 16 := by
      have h1 := (inv_graph hG own).rq
      have h2 := hG.top
      show (svOf (togs l own)).quiet.length ≤ 16
      omega
    clear hG
    go_wp2_with (first
      | (go_at_call 39; (with_reducible refine (isGraph_any own R.out HG.out).mono ?_); rintro e w2 ⟨rfl, hb⟩; have nX := Aside0.mk (blk_below X.out hb); have nR := Aside0.mk (R.out.below hb); have nB := Aside0.mk (below_step HB.out hb); clear X HB R hb hX0 hX1 fX0 fX1; have X := nX; have R := nR; have HB := nB; clear nX nR nB; (try clear hX0 hX1 fX0 fX1); have hX0 := (blk_cell X.out 0).trans rfl; have hX1 := (blk_cell X.out 1).trans rfl; have fX0 := blk_frozen X.out 0; have fX1 := blk_frozen X.out 1)
      | (go_at_call 40; (with_reducible refine (solverOf_any own R.out HGG.out).mono ?_); rintro e w3 ⟨bs, rfl, hle, hs, hb⟩; have hs2 : SvAt w3 bs (svG l own) := hs; obtain ⟨vp, vq, vi, hS, hP, hQ, hI⟩ := hs2; obtain ⟨Aq, cq, rfl⟩ := Kd.R_slice hQ; have nB := Aside0.mk (below_step HB.out hb); have hS1 := (blk_cell hS 1).trans rfl; have RQ := Aside0.mk (Rd.of hQ (by rw [ints_length]; omega)); clear X HB R hb hs hX0 hX1 fX0 fX1 hS hP hQ hI; have HB := nB; clear nB))
    go_ret2
    refine ⟨_, rfl, ?_, HB.out⟩
    first | exact RQ.out | exact fun _ => RQ.out
set_option maxRecDepth 100000 in
set_option maxHeartbeats 8000000 in
theorem DrawIsGraph_any {W : World} {v : Value} {l0 : List Int} (h : Rb W v l0) : Calls Tryz.prog 38 #[v] W (DrawGP W) := by
  obtain ⟨A, c, rfl, hcl, hr, hx⟩ := h
  have hu := Tryz.underlying26
  have huc := Tryz.underlying61
  have HW := Aside0.mk (below_alloc (Below.refl W.heap.size W) (.cells #[.slice none 0 0, .bool false] 26))
  have X := Aside0.mk (blk_new W (.cells #[.slice none 0 0, .bool false] 26))
  have HR0 := Aside0.mk (Kd.C_alloc hr (.cells #[.slice none 0 0, .bool false] 26))
  have HXX := Aside0.mk hx
  clear hr hx hcl
  go_enter Tryz.func38, Tryz.ntmps38
  go_upto_region 1 with (fail)
  generalize W.alloc (.cells #[.slice none 0 0, .bool false] 26) = w1 at *
  have HC := Aside0.mk (Cur.new w1 A c l0 HR0.out HXX.out)
  have hXg := Nat.ne_of_lt (blk_lt X.out)
  have hXl := blk_lt X.out
  have hRg : w1.heap.size < (w1.alloc (Obj.cells #[Value.slice A l0.length c, Value.int IntKind.i64 0, Value.int IntKind.u64 0] 61)).heap.size := by simp
  go_upto_region 2 with (fail)
  have nX := Aside0.mk (blk_alloc X.out (.cells #[.slice A l0.length c, .int .i64 0, .int .u64 0] 61))
  clear X
  have X := nX
  clear nX
  generalize World.alloc w1 (.cells #[.slice A l0.length c, .int .i64 0, .int .u64 0] 61) = w1s at *
  go_wp2_with (go_at_call 51; (with_reducible refine (graph_any _ _ HC.out (by omega) (by omega) (by omega)).mono ?_); rintro e w3 ⟨z, l, own, rfl, hr, hll, hc, hk⟩; obtain ⟨A2, c2, rfl⟩ := Kd.R_slice hr; have nX := Aside0.mk (hk.blk X.out hXg (by simp)); have R := Aside0.mk hr; have hW3 := blk_lt X.out; clear HC X hk hr; have HC := Aside0.mk hc; have X := nX; clear hc nX; (try clear hX0 hX1 fX0 fX1); have hX0 := (blk_cell X.out 0).trans rfl; have hX1 := (blk_cell X.out 1).trans rfl; have fX0 := blk_frozen X.out 0; have fX1 := blk_frozen X.out 1)
  go_wp2
  refine bodyPost_ret (results_cell_row rfl _ _ W.heap.size 26 _ (0, 0) _ rfl (put2_blk X.out _ _) Tryz.underlying26 rfl (by kernel_rfl)) rfl ?_
  exact ⟨_, l, own, rfl, ⟨Kd.R_lower (row_far (row_far R.out (p := ⟨W.heap.size, 0, none⟩) (by simp only; omega) _) (p := ⟨W.heap.size, 1, none⟩) (by simp only; omega) _) (by omega), by omega⟩, below_set (below_set (below_step HW.out HC.out.base) (Nat.le_refl _)) (Nat.le_refl _)⟩

/-! What solving returns. -/



theorem impl_EffectOf.sem {W : World} {v : Value} {l : List Int} (own : Bool) (p : Int) {x : Int} {ok : Bool} (h : Rd W v l) (hr : pressAll l own 0 p = (x, ok)) : Calls Tryz.prog 15 #[.agg #[v, .bool own], .int .i64 p] W fun e W' => e = .returned (.tuple #[.int .i64 x, .bool ok]) ∧ Below W.heap.size W W' := by
  obtain ⟨A, c, rfl, hc, hC, hl⟩ := h
  obtain ⟨K, hK⟩ := ev_get (impl_EffectOf.ev l own p)
  exact impl_EffectOf.calls K A c l own p x ok W hC hc ((hK K (Nat.le_refl _)).trans (by first | rw [hr] | (rw [← hr]; rfl)))


theorem impl_TogglesOf.sem {W : World} {v : Value} {l : List Int} (own : Bool) (i : Int) {x : Int} {ok : Bool} (h : Rd W v l) (hr : togglesOf l own i = (x, ok)) : Calls Tryz.prog 17 #[.agg #[v, .bool own], .int .i64 i] W fun e W' => e = .returned (.tuple #[.int .i64 x, .bool ok]) ∧ Below W.heap.size W W' := by
  obtain ⟨A, c, rfl, hc, hC, hl⟩ := h
  obtain ⟨K, hK⟩ := ev_get (impl_TogglesOf.ev l own i)
  exact impl_TogglesOf.calls K A c l own i x ok W hC hc ((hK K (Nat.le_refl _)).trans (by first | rw [hr] | (rw [← hr]; rfl)))

theorem impl_PressAll.sem {W : World} {v : Value} {l : List Int} (own : Bool) (s : Int) (p : Int) {x : Int} {ok : Bool} (h : Rd W v l) (hr : pressAll l own s p = (x, ok)) : Calls Tryz.prog 44 #[.agg #[v, .bool own], .int .i64 s, .int .i64 p] W fun e W' => e = .returned (.tuple #[.int .i64 x, .bool ok]) ∧ Below W.heap.size W W' := by
  obtain ⟨A, c, rfl, hc, hC, hl⟩ := h
  obtain ⟨K, hK⟩ := ev_get (impl_PressAll.ev l own s p)
  exact impl_PressAll.calls K A c l own s p x ok W hC hc ((hK K (Nat.le_refl _)).trans (by first | rw [hr] | (rw [← hr]; rfl)))

theorem impl_IsQuiet.sem {W : World} {v : Value} {l : List Int} (own : Bool) (s : Int) {x ok : Bool} (h : Rd W v l) (hr : isQuietR l own s = (x, ok)) : Calls Tryz.prog 22 #[.agg #[v, .bool own], .int .i64 s] W fun e W' => e = .returned (.tuple #[.bool x, .bool ok]) ∧ Below W.heap.size W W' := by
  obtain ⟨A, c, rfl, hc, hC, hl⟩ := h
  obtain ⟨K, hK⟩ := ev_get (impl_IsQuiet.ev l own s)
  exact impl_IsQuiet.calls K A c l own s x ok W hC hc ((hK K (Nat.le_refl _)).trans (by rw [hr]))


end Go.Proofs.YtjoeakahfomckaaGreat.Draw
