/- What is drawn for FnSolvedOrRefused: within bounds, whatever it is. -/
import Derived.Test.YtlioggjncgfioaaPFnSolvedOrRefusedx
import Derived.Test.YtlioggjncgfioaaQFnSolvedOrRefused0
import Derived.Test.YtlioggjncgfioaaQFnSolvedOrRefused1
import Derived.Test.YtlioggjncgfioaaM1
import Derived.Test.YtlioggjncgfioaaM28
import Derived.WalkKit
import Derived.RowKit3
import Derived.Deep.QuietTactic
import Derived.BigQuiet
import Derived.Deep.DeepCutAuto
import Derived.Deep.CutBlock
import Derived.Deep.LoopGhost
import Derived.Outline
import Derived.Deep.DeepFit
import Derived.Test.YtlioggjncgfioaaDFnSolvedOrRefused0
import Derived.Test.YtlioggjncgfioaaDFnSolvedOrRefused1
import Derived.Test.YtlioggjncgfioaaDFnSolvedOrRefused2
namespace Go.Proofs.Ytlioggjncgfioaa.Draw
open Go.RowKit Go.Proofs.Ytlioggjncgfioaa.PFnSolvedOrRefused Go.Proofs.YtlioggjncgfioaaW.PrintWords Go.Proofs.YtlioggjncgfioaaW.PrintLast Go.Proofs.YtlioggjncgfioaaW.PrintMore Go.Proofs.YtlioggjncgfioaaM Go.Proofs.Ytlioggjncgfioaa.Pure
attribute [local go_sem] max2_int min2_int max_two min_two max_three min_three max_four min_four
set_option linter.unusedVariables false
set_option linter.unusedSimpArgs false
variable {w0 w w1 W : World} {g : Nat} {a : Int}
/-! What the solver solves. -/
theorem svG_small {l : List Int} (hG : GoodG l) (own : Bool) : SvOk l.length l.length l.length (svG l own) := by
  obtain ⟨_, h1, h2⟩ := togs_ints l own hG
  have := svOk_of (n := l.length) (l := togs l own) (by omega) h2
  rwa [h1] at this
theorem reduced_any {W : World} {v : Value} {q : List Nat} {s : Nat} (h : Rd W v (ints q)) (hs : s < 2 ^ 62) (hq : ∀ b ∈ q, b < 2 ^ 62 ∧ b ≠ 0) : Calls Try.prog 101 #[v, .int .i64 (s : Int)] W fun e W' => e = .returned (.int .i64 ((red q s : Nat) : Int)) ∧ Below W.heap.size W W' := by
  obtain ⟨A, c, rfl, hc, hC, hl⟩ := h
  exact impl_reduced.calls 1 A c (ints q) (s : Int) _ W hC hc (impl_reduced.eq 0 q s hs hq)
set_option maxRecDepth 100000 in
set_option maxHeartbeats 4000000 in
theorem solve_any {W : World} {b : Nat} {l : List Int} {own : Bool} (hG : GoodG l) (hS : SvAt W b (svG l own)) {y : Nat} (hy : y < 2 ^ l.length) :
    Calls Try.prog 69 #[.pointer (some ⟨b, 0, none⟩), .int .i64 (y : Int)] W fun e W' => e = .returned (.tuple #[.int .i64 ((red (svG l own).quiet (reach (svG l own).ps y).2 : Nat) : Int), .bool (decide ((reach (svG l own).ps y).1 = 0))]) ∧ Below W.heap.size W W' := by
  have hu := Try.underlying60
  have hk := svG_small hG own
  have h16 : (2 : Nat) ^ l.length ≤ 2 ^ 16 := Nat.pow_le_pow_right (by decide) hG.top
  have hn := hG.top
  have hrl := reach_lt hk hy
  generalize svG l own = s at *
  obtain ⟨vp, vq, vi, hX, hP, hQ, hI⟩ := hS
  have hra := reach_any hX hP (fun p hp => ⟨(hk.ps p hp).1, by have := (hk.ps p hp).2.1; omega, by have := (hk.ps p hp).2.2; omega⟩) (by have := hk.pl; omega) (show y < 2 ^ 62 by omega)
  obtain ⟨Aq, cq, rfl⟩ := Kd.R_slice hQ
  have HRA := Aside0.mk hra
  have X := Aside0.mk hX
  have RQ := Aside0.mk hQ
  have HK := Aside0.mk hk
  generalize (reach s.ps y).1 = a at *
  generalize (reach s.ps y).2 = q at *
  have hz : ((a : Int) == 0) = decide (a = 0) := by
    rw [Bool.eq_iff_iff, beq_iff_eq, decide_eq_true_eq]
    exact Int.ofNat_eq_zero
  have HL := Aside0.mk hrl
  clear hra hX hP hQ hI hk hrl
  go_enter Try.func69, Try.ntmps69
  go_wp2_with (first
    | (go_at_call 100; (with_reducible refine HRA.out.mono ?_); rintro e w2 ⟨rfl, hb⟩; have HB := Aside0.mk hb; have hX := blk_below X.out hb; have nQ := Aside0.mk (Kd.R_below RQ.out hb); have hX1 := (blk_cell hX 1).trans rfl; clear RQ hX hb HRA; have RQ := nQ; clear nQ)
    | (go_at_call 101; (with_reducible refine (reduced_any (Rd.of RQ.out (by rw [ints_length]; have := HK.out.ql; omega)) (show q < 2 ^ 62 by have := HL.out.2; omega) (fun b hb => ⟨by have := HK.out.q b hb; omega, HK.out.qb.pos b hb⟩)).mono ?_); rintro e w3 ⟨rfl, hb⟩; have nB := Aside0.mk (below_step HB.out hb); clear HB hb; have HB := nB; clear nB))
  go_ret2
  exact ⟨by first | rfl | (simp [hz]; done), HB.out⟩
theorem blk_low2 {W W' : World} {b : Nat} {o : Obj} (h : W.heap[b]? = some o) (hb : Below W.heap.size W W') : W'.heap[b]? = some o := blk_below h hb
theorem isSet_any {W : World} {v : Value} {l : List Int} (own : Bool) (s : Int) {b : Bool} (h : Rd W v l) (hb : boardOk l s = b) : Calls Try.prog 67 #[.agg #[v, .bool own], .slice (some ⟨W.heap.size, 0, none⟩) 1 1] (W.alloc (.cells #[.int .i64 s] 3 (0, 0))) fun e W' => e = .returned (.bool b) ∧ Below W.heap.size W W' := by
  obtain ⟨A, c, rfl, hc, hC, hl⟩ := h.alloc (.cells #[.int .i64 s] 3 (0, 0))
  obtain ⟨K, hK⟩ := ev_get (impl_isSet.ev l own [s])
  have hL : Kd.C (Kd.int .i64) (W.alloc (.cells #[.int .i64 s] 3 (0, 0))) (some ⟨W.heap.size, 0, none⟩) 1 [s] := C_lit W [s] (by simp)
  refine (impl_isSet.calls K A c l own (some ⟨W.heap.size, 0, none⟩) 1 [s] b _ hC hc hL (Nat.le_refl _) ((hK K (Nat.le_refl _)).trans ?_)).mono fun _ _ ⟨he, h2⟩ => ⟨he, below_step (below_alloc (Below.refl _ _) _) h2⟩
  rw [← hb]
  unfold boardOk
  simp
set_option maxRecDepth 100000 in
set_option maxHeartbeats 4000000 in
theorem CanSolve_any {W : World} {v : Value} {l : List Int} (own : Bool) (s : Int) {x : Bool} {ok : Bool} (h : Rd W v l) (hr : canR l own s = (x, ok)) : Calls Try.prog 32 #[.agg #[v, .bool own], .int .i64 s] W fun e W' => e = .returned (.tuple #[.bool x, .bool ok]) ∧ Below W.heap.size W W' := by
  have hu := Try.underlying29
  have hu2 := Try.underlying60
  obtain ⟨A, c, rfl⟩ := h.slice
  have HB := Aside0.mk (below_alloc (Below.refl W.heap.size W) (.cells #[.slice A l.length c, .bool own] 29 (0, 0)))
  have X := Aside0.mk (blk_new W (.cells #[.slice A l.length c, .bool own] 29 (0, 0)))
  have R := Aside0.mk (h.alloc (.cells #[.slice A l.length c, .bool own] 29 (0, 0)))
  clear h
  go_enter Try.func32, Try.ntmps32
  go_upto_region 1 with (fail)
  generalize W.alloc (.cells #[.slice A l.length c, .bool own] 29 (0, 0)) = w1 at *
  (try clear hX0 hX1 fX0 fX1); have hX0 := (blk_cell X.out 0).trans rfl; have hX1 := (blk_cell X.out 1).trans rfl; have fX0 := blk_frozen X.out 0; have fX1 := blk_frozen X.out 1
  unfold canR at hr
  cases hok : boardOk l s
  · rw [hok, if_neg (by decide)] at hr
    injection hr with hr1 hr2
    subst hr1
    subst hr2
    have HK := Aside0.mk hok
    clear hok
    go_wp2_with (go_at_call 67; (with_reducible refine (isSet_any own s R.out HK.out).mono ?_); rintro e w2 ⟨rfl, hb⟩; have nB := Aside0.mk (below_step HB.out hb); clear X HB R hb hX0 hX1 fX0 fX1; have HB := nB; clear nB)
    go_ret2
    exact ⟨rfl, HB.out⟩
  · rw [hok, if_pos rfl] at hr
    obtain ⟨hG, hs⟩ := boardOk_of hok
    obtain ⟨hs0, hs1, hs2⟩ := inSet_lt hs
    obtain ⟨y, rfl⟩ : ∃ y : Nat, s = y := ⟨s.toNat, hs2⟩
    rw [Int.toNat_natCast] at hs1 hr
    have HK := Aside0.mk hok
    have HG := Aside0.mk hG
    clear hok hG hs hs2
    injection hr with hr1 hr2
    subst hr1
    subst hr2
    go_wp2_with (first
      | (go_at_call 67; (with_reducible refine (isSet_any own (y : Int) R.out HK.out).mono ?_); rintro e w2 ⟨rfl, hb⟩; have nX := Aside0.mk (blk_low2 X.out hb); have nR := Aside0.mk (R.out.below hb); have nB := Aside0.mk (below_step HB.out hb); clear X HB R hb hX0 hX1 fX0 fX1; have X := nX; have R := nR; have HB := nB; clear nX nR nB; (try clear hX0 hX1 fX0 fX1); have hX0 := (blk_cell X.out 0).trans rfl; have hX1 := (blk_cell X.out 1).trans rfl; have fX0 := blk_frozen X.out 0; have fX1 := blk_frozen X.out 1)
      | (go_at_call 55; (with_reducible refine (solverOf_any own R.out HG.out).mono ?_); rintro e w3 ⟨bs, rfl, hle, hs, hb⟩; have HS : Aside0 (SvAt w3 bs (svG l own)) := ⟨hs⟩; have nB := Aside0.mk (below_step HB.out hb); clear X HB R hb hs hle hX0 hX1 fX0 fX1; have HB := nB; clear nB)
      | (go_at_call 69; (with_reducible refine (solve_any HG.out HS.out hs1).mono ?_); rintro e w4 ⟨rfl, hb⟩; have nS := Aside0.mk (HS.out.below hb); have nB := Aside0.mk (below_step HB.out hb); clear HS HB hb; have HS := nS; have HB := nB; clear nS nB))
    go_ret2
    exact ⟨rfl, HB.out⟩

theorem told_true (W : World) (a : Int) : Calls Try.prog 68 #[.int .i64 a, .bool true] W fun e W' => e = .returned (.tuple #[.int .i64 a, .bool true]) ∧ Below W.heap.size W W' :=
  (impl_told.calls a true a true W (by unfold impl_told.f; rw [if_pos rfl])).mono fun _ _ ⟨he, hn⟩ => ⟨he, Drawn0.below hn⟩
theorem told_false (W : World) (a : Int) : Calls Try.prog 68 #[.int .i64 a, .bool false] W fun e W' => e = .returned (.tuple #[.int .i64 0, .bool false]) ∧ Below W.heap.size W W' :=
  (impl_told.calls a false 0 false W (by unfold impl_told.f; rw [if_neg (by decide)])).mono fun _ _ ⟨he, hn⟩ => ⟨he, Drawn0.below hn⟩
set_option maxRecDepth 100000 in
set_option maxHeartbeats 4000000 in
theorem SolveBoard_any {W : World} {v : Value} {l : List Int} (own : Bool) (s : Int) {x : Int} {ok : Bool} (h : Rd W v l) (hr : solveR l own s = (x, ok)) : Calls Try.prog 28 #[.agg #[v, .bool own], .int .i64 s] W fun e W' => e = .returned (.tuple #[.int .i64 x, .bool ok]) ∧ Below W.heap.size W W' := by
  have hu := Try.underlying29
  have hu2 := Try.underlying60
  obtain ⟨A, c, rfl⟩ := h.slice
  have HB := Aside0.mk (below_alloc (Below.refl W.heap.size W) (.cells #[.slice A l.length c, .bool own] 29 (0, 0)))
  have X := Aside0.mk (blk_new W (.cells #[.slice A l.length c, .bool own] 29 (0, 0)))
  have R := Aside0.mk (h.alloc (.cells #[.slice A l.length c, .bool own] 29 (0, 0)))
  clear h
  go_enter Try.func28, Try.ntmps28
  go_upto_region 1 with (fail)
  generalize W.alloc (.cells #[.slice A l.length c, .bool own] 29 (0, 0)) = w1 at *
  (try clear hX0 hX1 fX0 fX1); have hX0 := (blk_cell X.out 0).trans rfl; have hX1 := (blk_cell X.out 1).trans rfl; have fX0 := blk_frozen X.out 0; have fX1 := blk_frozen X.out 1
  unfold solveR at hr
  cases hok : boardOk l s
  · rw [hok, if_neg (by decide)] at hr
    injection hr with hr1 hr2
    subst hr1
    subst hr2
    have HK := Aside0.mk hok
    clear hok
    go_wp2_with (go_at_call 67; (with_reducible refine (isSet_any own s R.out HK.out).mono ?_); rintro e w2 ⟨rfl, hb⟩; have nB := Aside0.mk (below_step HB.out hb); clear X HB R hb hX0 hX1 fX0 fX1; have HB := nB; clear nB)
    go_ret2
    exact ⟨rfl, HB.out⟩
  · rw [hok, if_pos rfl] at hr
    obtain ⟨hG, hs⟩ := boardOk_of hok
    obtain ⟨hs0, hs1, hs2⟩ := inSet_lt hs
    obtain ⟨y, rfl⟩ : ∃ y : Nat, s = y := ⟨s.toNat, hs2⟩
    rw [Int.toNat_natCast] at hs1 hr
    have HK := Aside0.mk hok
    have HG := Aside0.mk hG
    clear hok hG hs hs2
    by_cases e0 : (reach (svG l own).ps y).1 = 0
    all_goals
      have hd := e0
      simp only [e0, if_true, if_false] at hr
      injection hr with hr1 hr2
      subst hr1
      subst hr2
      have hdd : decide ((reach (svG l own).ps y).1 = 0) = _ := rfl
      simp only [e0, decide_true, decide_false] at hdd
      go_wp2_with (first
        | (go_at_call 67; (with_reducible refine (isSet_any own (y : Int) R.out HK.out).mono ?_); rintro e w2 ⟨rfl, hb⟩; have nX := Aside0.mk (blk_low2 X.out hb); have nR := Aside0.mk (R.out.below hb); have nB := Aside0.mk (below_step HB.out hb); clear X HB R hb hX0 hX1 fX0 fX1; have X := nX; have R := nR; have HB := nB; clear nX nR nB; (try clear hX0 hX1 fX0 fX1); have hX0 := (blk_cell X.out 0).trans rfl; have hX1 := (blk_cell X.out 1).trans rfl; have fX0 := blk_frozen X.out 0; have fX1 := blk_frozen X.out 1)
        | (go_at_call 55; (with_reducible refine (solverOf_any own R.out HG.out).mono ?_); rintro e w3 ⟨bs, rfl, hle, hs, hb⟩; have HS : Aside0 (SvAt w3 bs (svG l own)) := ⟨hs⟩; have nB := Aside0.mk (below_step HB.out hb); clear X HB R hb hs hle hX0 hX1 fX0 fX1; have HB := nB; clear nB)
        | (go_at_call 69; (with_reducible refine (solve_any HG.out HS.out hs1).mono ?_); rintro e w4 ⟨rfl, hb⟩; have nS := Aside0.mk (HS.out.below hb); have nB := Aside0.mk (below_step HB.out hb); clear HS HB hb; have HS := nS; have HB := nB; clear nS nB)
        | (go_at_call 68; (first | (with_reducible refine (told_true _ _).mono ?_) | (with_reducible refine (told_false _ _).mono ?_)); rintro e w5 ⟨rfl, hb⟩; have nB := Aside0.mk (below_step HB.out hb); clear HB hb; have HB := nB; clear nB))
      go_ret2
      exact ⟨rfl, HB.out⟩

set_option maxRecDepth 100000 in
set_option maxHeartbeats 4000000 in
theorem CountSolutions_any {W : World} {v : Value} {l : List Int} (own : Bool) (s : Int) {x : Int} {ok : Bool} (h : Rd W v l) (hr : countR l own s = (x, ok)) : Calls Try.prog 34 #[.agg #[v, .bool own], .int .i64 s] W fun e W' => e = .returned (.tuple #[.int .i64 x, .bool ok]) ∧ Below W.heap.size W W' := by
  have hu := Try.underlying29
  have hu2 := Try.underlying60
  obtain ⟨A, c, rfl⟩ := h.slice
  have HB := Aside0.mk (below_alloc (Below.refl W.heap.size W) (.cells #[.slice A l.length c, .bool own] 29 (0, 0)))
  have X := Aside0.mk (blk_new W (.cells #[.slice A l.length c, .bool own] 29 (0, 0)))
  have R := Aside0.mk (h.alloc (.cells #[.slice A l.length c, .bool own] 29 (0, 0)))
  clear h
  go_enter Try.func34, Try.ntmps34
  go_upto_region 1 with (fail)
  generalize W.alloc (.cells #[.slice A l.length c, .bool own] 29 (0, 0)) = w1 at *
  (try clear hX0 hX1 fX0 fX1); have hX0 := (blk_cell X.out 0).trans rfl; have hX1 := (blk_cell X.out 1).trans rfl; have fX0 := blk_frozen X.out 0; have fX1 := blk_frozen X.out 1
  unfold countR at hr
  cases hok : boardOk l s
  · rw [hok, if_neg (by decide)] at hr
    injection hr with hr1 hr2
    subst hr1
    subst hr2
    have HK := Aside0.mk hok
    clear hok
    go_wp2_with (go_at_call 67; (with_reducible refine (isSet_any own s R.out HK.out).mono ?_); rintro e w2 ⟨rfl, hb⟩; have nB := Aside0.mk (below_step HB.out hb); clear X HB R hb hX0 hX1 fX0 fX1; have HB := nB; clear nB)
    go_ret2
    exact ⟨rfl, HB.out⟩
  · rw [hok, if_pos rfl] at hr
    obtain ⟨hG, hs⟩ := boardOk_of hok
    obtain ⟨hs0, hs1, hs2⟩ := inSet_lt hs
    obtain ⟨y, rfl⟩ : ∃ y : Nat, s = y := ⟨s.toNat, hs2⟩
    rw [Int.toNat_natCast] at hs1 hr
    have HK := Aside0.mk hok
    have HG := Aside0.mk hG
    have hq16 : (svG l own).quiet.length ≤ 16 := by
      have h1 := (inv_graph hG own).rq
      have h2 := hG.top
      show (svOf (togs l own)).quiet.length ≤ 16
      omega
    clear hok hG hs hs2
    by_cases e0 : (reach (svG l own).ps y).1 = 0
    all_goals
      simp only [e0, if_true, if_false] at hr
      injection hr with hr1 hr2
      subst hr1
      subst hr2
      have hdd : decide ((reach (svG l own).ps y).1 = 0) = _ := rfl
      simp only [e0, decide_true, decide_false] at hdd
      have hsh : wrap64 (2 ^ (svG l own).quiet.length) = ((2 ^ (svG l own).quiet.length : Nat) : Int) := by
        have h2 : (2 : Nat) ^ (svG l own).quiet.length ≤ 2 ^ 16 := Nat.pow_le_pow_right (by decide) hq16
        rw [← pow_cast]
        generalize 2 ^ (svG l own).quiet.length = m at h2 ⊢
        exact wrap_id (by omega) (by omega)
      go_wp2_with (first
        | (go_at_call 67; (with_reducible refine (isSet_any own (y : Int) R.out HK.out).mono ?_); rintro e w2 ⟨rfl, hb⟩; have nX := Aside0.mk (blk_low2 X.out hb); have nR := Aside0.mk (R.out.below hb); have nB := Aside0.mk (below_step HB.out hb); clear X HB R hb hX0 hX1 fX0 fX1; have X := nX; have R := nR; have HB := nB; clear nX nR nB; (try clear hX0 hX1 fX0 fX1); have hX0 := (blk_cell X.out 0).trans rfl; have hX1 := (blk_cell X.out 1).trans rfl; have fX0 := blk_frozen X.out 0; have fX1 := blk_frozen X.out 1)
        | (go_at_call 55; (with_reducible refine (solverOf_any own R.out HG.out).mono ?_); rintro e w3 ⟨bs, rfl, hle, hs, hb⟩; have HS : Aside0 (SvAt w3 bs (svG l own)) := ⟨hs⟩; have nB := Aside0.mk (below_step HB.out hb); clear X HB R hb hs hle hX0 hX1 fX0 fX1; have HB := nB; clear nB)
        | (go_at_call 69; (with_reducible refine (solve_any HG.out HS.out hs1).mono ?_); rintro e w4 ⟨rfl, hb⟩; have nB := Aside0.mk (below_step HB.out hb); obtain ⟨vp, vq, vi, hS, hP, hQ, hI⟩ := HS.out.below hb; obtain ⟨Aq, cq, rfl⟩ := Kd.R_slice hQ; have hS1 := (blk_cell hS 1).trans rfl; rw [ints_length] at hS1; clear HS HB hb hS hP hQ hI; have HB := nB; clear nB))
      go_ret2
      exact ⟨by first | rfl | (simp [hsh]; done), HB.out⟩

set_option maxRecDepth 100000 in
set_option maxHeartbeats 4000000 in
theorem WitnessOf_any {W : World} {v : Value} {l : List Int} (own : Bool) (s : Int) {x : Int} {ok : Bool} (h : Rd W v l) (hr : witR l own s = (x, ok)) : Calls Try.prog 30 #[.agg #[v, .bool own], .int .i64 s] W fun e W' => e = .returned (.tuple #[.int .i64 x, .bool ok]) ∧ Below W.heap.size W W' := by
  have hu := Try.underlying29
  have hu2 := Try.underlying60
  obtain ⟨A, c, rfl⟩ := h.slice
  have HB := Aside0.mk (below_alloc (Below.refl W.heap.size W) (.cells #[.slice A l.length c, .bool own] 29 (0, 0)))
  have X := Aside0.mk (blk_new W (.cells #[.slice A l.length c, .bool own] 29 (0, 0)))
  have R := Aside0.mk (h.alloc (.cells #[.slice A l.length c, .bool own] 29 (0, 0)))
  clear h
  go_enter Try.func30, Try.ntmps30
  go_upto_region 1 with (fail)
  generalize W.alloc (.cells #[.slice A l.length c, .bool own] 29 (0, 0)) = w1 at *
  (try clear hX0 hX1 fX0 fX1); have hX0 := (blk_cell X.out 0).trans rfl; have hX1 := (blk_cell X.out 1).trans rfl; have fX0 := blk_frozen X.out 0; have fX1 := blk_frozen X.out 1
  unfold witR at hr
  cases hok : boardOk l s
  · rw [hok, if_neg (by decide)] at hr
    injection hr with hr1 hr2
    subst hr1
    subst hr2
    have HK := Aside0.mk hok
    clear hok
    go_wp2_with (go_at_call 67; (with_reducible refine (isSet_any own s R.out HK.out).mono ?_); rintro e w2 ⟨rfl, hb⟩; have nB := Aside0.mk (below_step HB.out hb); clear X HB R hb hX0 hX1 fX0 fX1; have HB := nB; clear nB)
    go_ret2
    exact ⟨rfl, HB.out⟩
  · rw [hok, if_pos rfl] at hr
    obtain ⟨hG, hs⟩ := boardOk_of hok
    obtain ⟨hs0, hs1, hs2⟩ := inSet_lt hs
    obtain ⟨y, rfl⟩ : ∃ y : Nat, s = y := ⟨s.toNat, hs2⟩
    rw [Int.toNat_natCast] at hs1 hr
    have HK := Aside0.mk hok
    have HG := Aside0.mk hG
    have h16 : (2 : Nat) ^ l.length ≤ 2 ^ 16 := Nat.pow_le_pow_right (by decide) hG.top
    have hq16 : ∀ b ∈ (svG l own).quiet, b < 65536 := fun b hb => by
      have := (((inv_graph hG own).qs b).1 (Sp.one hb)).1
      omega
    have hql : (svG l own).quiet.length ≤ 16 := by
      have h1 := (inv_graph hG own).rq
      have h2 := hG.top
      show (svOf (togs l own)).quiet.length ≤ 16
      omega
    have hy16 : y < 65536 := by omega
    have HQ := Aside0.mk hq16
    have HRR := Aside0.mk hr
    clear hok hG hs hs2 hr hq16 h16
    go_wp2_with (first
      | (go_at_call 67; (with_reducible refine (isSet_any own (y : Int) R.out HK.out).mono ?_); rintro e w2 ⟨rfl, hb⟩; have nX := Aside0.mk (blk_low2 X.out hb); have nR := Aside0.mk (R.out.below hb); have nB := Aside0.mk (below_step HB.out hb); clear X HB R hb hX0 hX1 fX0 fX1; have X := nX; have R := nR; have HB := nB; clear nX nR nB; (try clear hX0 hX1 fX0 fX1); have hX0 := (blk_cell X.out 0).trans rfl; have hX1 := (blk_cell X.out 1).trans rfl; have fX0 := blk_frozen X.out 0; have fX1 := blk_frozen X.out 1)
      | (go_at_call 55; (with_reducible refine (solverOf_any own R.out HG.out).mono ?_); rintro e w3 ⟨bs, rfl, hle, hs, hb⟩; have hs2 : SvAt w3 bs (svG l own) := hs; obtain ⟨vp, vq, vi, hS, hP, hQ, hI⟩ := hs2; obtain ⟨Aq, cq, rfl⟩ := Kd.R_slice hQ; have nB := Aside0.mk (below_step HB.out hb); have hS1 := (blk_cell hS 1).trans rfl; have RQ := Aside0.mk (Rd.of hQ (by rw [ints_length]; omega)); rw [ints_length] at hS1 RQ; clear X HB R hb hs hle hX0 hX1 fX0 fX1 hS hP hQ hI; have HB := nB; clear nB))
    generalize (svG l own).quiet = q at *
    go_loopw [19] (fun v19 wr => ∃ j : Nat, j ≤ q.length ∧ v19 = .int .i64 (j : Int) ∧ Aside0 ((q.drop j).find? (fun b => oddm b y) = q.find? (fun b => oddm b y)) ∧ Aside0 (Rd wr (.slice Aq q.length cq) (ints q)) ∧ Aside0 (Below W.heap.size W wr)) (fun v19 _ => q.length - (intOf v19).toNat)
    case atStart => exact ⟨0, Nat.zero_le _, rfl, ⟨rfl⟩, RQ, HB⟩
    case round =>
      clear RQ HB hS1
      obtain ⟨j, hj, rfl, HF, RQ, HB⟩ := hrel
      by_cases hlt : j < q.length
      · obtain ⟨ad, e1, hc_⟩ := RQ.out.cell (j : Int) (by omega) (by omega)
        subst e1
        clear hc_
        have hcell := RQ.out.cellN j hlt
        rw [ints_get q j hlt] at hcell
        have hb16 := HQ.out q[j] (List.getElem_mem hlt)
        have hf := HF.out
        rw [List.drop_eq_getElem_cons hlt, List.find?_cons] at hf
        have hod : ∀ w, Calls Try.prog 71 #[.int .i64 (q[j] : Int), .int .i64 (y : Int)] w fun e w' => e = .returned (.bool (oddm q[j] y)) ∧ Below w.heap.size w w' := fun w => (impl_odd.calls (q[j] : Int) (y : Int) _ w (impl_odd.eq _ _ (by omega) (by omega) (by omega) (by omega))).mono fun _ _ ⟨he, hn⟩ => ⟨he.trans (by rw [Int.toNat_natCast, Int.toNat_natCast]; unfold oddm; rfl), Drawn0.below hn⟩
        have HO := Aside0.mk hod
        have HF2 := Aside0.mk hf
        clear hod hf HF
        generalize q[j] = b at *
        generalize hob : oddm b y = ob at *
        cases ob
        · go_wp2_with (go_at_call 71; (with_reducible refine (HO.out _).mono ?_); rintro e w5 ⟨rfl, hb⟩; (try clear hcell); have nQ := Aside0.mk (RQ.out.below hb); have nB := Aside0.mk (below_step HB.out hb); clear RQ HB hb; have RQ := nQ; have HB := nB; clear nQ nB)
          go_roundw
          case rel => exact ⟨j + 1, by omega, by go_num, HF2, RQ, HB⟩
          case measure => simp [intOf]; omega
        · have hfin : q.find? (fun b => oddm b y) = some b := HF2.out.symm
          have hr := HRR.out
          rw [hfin] at hr
          injection hr with hr1 hr2
          subst hr1
          subst hr2
          go_wp2_with (go_at_call 71; (with_reducible refine (HO.out _).mono ?_); rintro e w5 ⟨rfl, hb⟩; (try clear hcell); have nB := Aside0.mk (below_step HB.out hb); clear HB hb; have HB := nB; clear nB)
          go_ret2
          exact ⟨rfl, HB.out⟩
      · have hf := HF.out
        rw [List.drop_eq_nil_of_le (by omega)] at hf
        have hr := HRR.out
        rw [← hf] at hr
        injection hr with hr1 hr2
        subst hr1
        subst hr2
        go_wp2
        go_ret2
        exact ⟨rfl, HB.out⟩

end Go.Proofs.Ytlioggjncgfioaa.Draw
