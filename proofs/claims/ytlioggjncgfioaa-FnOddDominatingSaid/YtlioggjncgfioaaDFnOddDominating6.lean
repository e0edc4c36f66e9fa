/- What is drawn for FnOddDominating: within bounds, whatever it is. -/
import Derived.Test.YtlioggjncgfioaaPFnOddDominatingx
import Derived.Test.YtlioggjncgfioaaQFnOddDominating0
import Derived.Test.YtlioggjncgfioaaQFnOddDominating1
import Derived.Test.YtlioggjncgfioaaM1
import Derived.Test.YtlioggjncgfioaaM37
import Derived.Test.YtlioggjncgfioaaM38
import Derived.Test.YtlioggjncgfioaaM39
import Derived.WalkKit
import Derived.RowKit3
import Derived.Deep.QuietTactic
import Derived.BigQuiet
import Derived.Deep.DeepCutAuto
import Derived.Deep.CutBlock
import Derived.Deep.LoopGhost
import Derived.Outline
import Derived.Deep.DeepFit
import Derived.Test.YtlioggjncgfioaaDFnOddDominating0
import Derived.Test.YtlioggjncgfioaaDFnOddDominating1
import Derived.Test.YtlioggjncgfioaaDFnOddDominating2
import Derived.Test.YtlioggjncgfioaaDFnOddDominating3
import Derived.Test.YtlioggjncgfioaaDFnOddDominating4
import Derived.Test.YtlioggjncgfioaaDFnOddDominating5
namespace Go.Proofs.Ytlioggjncgfioaa.Draw
open Go.RowKit Go.Proofs.Ytlioggjncgfioaa.PFnOddDominating Go.Proofs.YtlioggjncgfioaaW.PrintWords Go.Proofs.YtlioggjncgfioaaW.PrintLast Go.Proofs.YtlioggjncgfioaaW.PrintMore Go.Proofs.YtlioggjncgfioaaM Go.Proofs.Ytlioggjncgfioaa.Pure
attribute [local go_sem] max2_int min2_int max_two min_two max_three min_three max_four min_four
set_option linter.unusedVariables false
set_option linter.unusedSimpArgs false
variable {w0 w w1 W : World} {g : Nat} {a : Int}
/-! Odd dominating sets, parts and cuts. -/
theorem grGood_any2 {W : World} {v : Value} {l : List Int} (own : Bool) {b : Bool} (h : Rd W v l) (hb : good l = b) : Calls Try.prog 61 #[.agg #[v, .bool own]] W fun e W' => e = .returned (.bool b) ∧ Below W.heap.size W W' := by
  obtain ⟨A, c, rfl, hc, hC, hl⟩ := h
  obtain ⟨K, hK⟩ := ev_get (spec_grGood.ev l own (by omega))
  exact spec_grGood.calls K A c l own b W hC hc ((hK K (Nat.le_refl _)).trans (by rw [hb]))
set_option maxRecDepth 100000 in
set_option maxHeartbeats 4000000 in
theorem paDominating_any {W : World} {v : Value} {l : List Int} (own : Bool) {p q y : Nat} (h : Rd W v l) (hG : GoodG l) (hy : 2 ^ l.length - 1 = y) (ho : PaOk l.length (togs l true) y p q) :
    Calls Try.prog 77 #[.agg #[v, .bool own]] W fun e W' => e = .returned (.tuple #[.int .i64 ((2 ^ q : Nat) : Int), .int .i64 (p : Int)]) ∧ Below W.heap.size W W' := by
  have hu := Try.underlying29
  obtain ⟨A, c, rfl⟩ := h.slice
  have hg1 := hG.top
  have HG := Aside0.mk hG
  have HR := Aside0.mk h
  have HO := Aside0.mk ho
  have HB := Aside0.mk (below_alloc (Below.refl W.heap.size W) (.cells #[.slice A l.length c, .bool own] 29 (0, 0)))
  have X := Aside0.mk (blk_new W (.cells #[.slice A l.length c, .bool own] 29 (0, 0)))
  have hq : q ≤ 16 := by have := ho.free; omega
  clear h hG ho
  have hq16 : (2 : Nat) ^ q ≤ 2 ^ 16 := Nat.pow_le_pow_right (by decide) hq
  have hwq : wrap64 (2 ^ q) = ((2 ^ q : Nat) : Int) := by
    rw [← pow_cast]
    generalize 2 ^ q = z at hq16 ⊢
    exact wrap_id (by omega) (by omega)
  generalize (2 : Nat) ^ q = zq at hq16 hwq ⊢
  have HWQ := Aside0.mk hwq
  clear hq16 hwq
  go_enter Try.func77, Try.ntmps77
  go_upto_region 1 with (fail)
  generalize W.alloc (.cells #[.slice A l.length c, .bool own] 29 (0, 0)) = w1 at *
  (try clear hX0 hX1 fX0 fX1); have hX0 := (blk_cell X.out 0).trans rfl; have hX1 := (blk_cell X.out 1).trans rfl; have fX0 := blk_frozen X.out 0; have fX1 := blk_frozen X.out 1
  have HV := Aside0.mk (Kd.R_nil (Kd.int .i64) 3 w1 (W.heap.size + 1) (fun _ => True))
  go_wp2
  go_loopw [4, 13] (fun v4 v13 wr => ∃ j : Nat, j ≤ l.length ∧ v13 = .int .i64 (j : Int) ∧ Aside0 (Kd.R (Kd.int .i64) 3 wr (W.heap.size + 1) (fun _ => True) v4 ((toggles l true).take j)) ∧ Aside0 (wr.heap[W.heap.size]? = some (.cells #[.slice A l.length c, .bool own] 29 (0, 0))) ∧ Aside0 (Below W.heap.size W wr)) (fun _ v13 _ => l.length - (intOf v13).toNat)
  case atStart => exact ⟨0, Nat.zero_le _, rfl, HV, X, HB⟩
  case round =>
    clear HV X HB hX0 hX1 fX0 fX1
    obtain ⟨j, hj, rfl, HV, X, HB⟩ := hrel
    (try clear hX0 hX1 fX0 fX1); have hX0 := (blk_cell X.out 0).trans rfl; have hX1 := (blk_cell X.out 1).trans rfl; have fX0 := blk_frozen X.out 0; have fX1 := blk_frozen X.out 1
    have hbl2 := blk_lt X.out
    by_cases hlt : j < l.length
    · have htk := toggles_take l true j hlt
      have hwl : ((toggles l true).take j).length = j := by rw [List.length_take, toggles_length]; omega
      generalize hword : (toggles l true).take j = word at *
      obtain ⟨ad, e1, hc_⟩ := HR.out.cell (j : Int) (by omega) (by omega)
      subst e1
      clear hc_
      have hcell := (HR.out.below HB.out).cellN j (by omega)
      have hdue := (togg_due HG.out (i := (j : Int)) (by omega) (by omega)).2
      rw [Int.toNat_natCast] at hdue
      obtain ⟨x, hx⟩ : ∃ x, rd l (j : Int) = x := ⟨_, rfl⟩
      rw [hx] at hcell hdue
      obtain ⟨z, hz⟩ : ∃ z, togg l true j = z := ⟨_, rfl⟩
      rw [hz] at hdue
      have hdue2 := hdue.symm
      have HZ := Aside0.mk hz
      clear hx hdue hz
      go_wp2_with (first
        | ((with_reducible refine gate_builtin (b := .append) (xs := #[.tmp 18, .tmp 23]) rfl ?_); at_builtin; refine Kd.R_append (Kd.int .i64) (W.heap.size + 1) rfl (.tmp 18) (.tmp 23) 27 3 (.int .i64 0) 8 rfl Try.underlying27 info3 rfl (by decide) (by omega) (u4) word (z) [.int .i64 (z)] (fun _ => True) (fun _ => False) rfl (by first | (go_simp; done) | (go_simp; rfl)) ?aP (fun _ hk => hk.elim) (fun _ _ => trivial) HV.out (Below.refl _ _) ?aS ?aL ?_; (case aP => exact rfl); (case aS => exact hbl2); (case aL => omega); intro v5 w5 ho hb _ _; have nX := Aside0.mk ((hb.block W.heap.size (Nat.lt_succ_self _)).trans X.out); have nB := Aside0.mk (HB.out.trans (hb.mono (Nat.le_succ _))); have nV := Aside0.mk ho; clear X HB HV hb ho hbl2; have X := nX; have HB := nB; have HV := nV; clear nX nB nV))
      go_roundw
      case rel => exact ⟨j + 1, by omega, by go_num, ⟨by rw [htk, HZ.out]; exact HV.out⟩, X, HB⟩
      case measure => simp [intOf]; omega
    · obtain ⟨hti, htl, htb⟩ := togs_ints l true HG.out
      have hV := HV.out
      rw [List.take_of_length_le (by rw [toggles_length]; omega), hti] at hV
      obtain ⟨Av, cv, rfl⟩ := Kd.R_slice hV
      have RV := Aside0.mk (Rd.of hV (by rw [ints_length]; omega))
      have hz16 : (2 : Nat) ^ l.length ≤ 2 ^ 16 := Nat.pow_le_pow_right (by decide) hg1
      have hz1 := Nat.two_pow_pos l.length
      have hwz : wrap64 (2 ^ l.length) = ((2 ^ l.length : Nat) : Int) := by
        rw [← pow_cast]
        generalize 2 ^ l.length = z at hz16 ⊢
        exact wrap_id (by omega) (by omega)
      generalize hzz : 2 ^ l.length = z at hz16 hz1 hwz hy
      have hwy : wrap64 ((z : Int) - 1) = (y : Int) := by rw [wrap_id (by omega) (by omega)]; omega
      have hwz2 : IntKind.i64.wrap (2 ^ l.length) = (z : Int) := by
        have e : ((2 : Int) ^ l.length) = (z : Int) := by rw [← hzz]; exact (pow_cast _).symm
        rw [e]
        exact wraps_i64 _ (by omega) (by omega)
      have hwy2 : IntKind.i64.wrap ((z : Int) - 1) = (y : Int) := (wraps_i64 _ (by omega) (by omega)).trans (by omega)
      clear hV hti htb HV hz16 hz1 hy hzz
      go_upto_region 7 with (fail)
      go_region_held3 (fun w' => w'.cell? ⟨W.heap.size, 0, none⟩ = some (.slice A l.length c) ∧ w'.cell? ⟨W.heap.size, 1, none⟩ = some (.bool own)) (first | exact ⟨hX0, hX1⟩ | go_keep) (first | (go_at_call 104; (with_reducible refine (paSolutions_any (RV.out.below (below_drew1 (Below.refl _ _))) HO.out).mono ?_); rintro e w3 ⟨rfl, hb⟩; have hb := below_step (below_drew1 (Below.refl wr.heap.size wr)) hb; have nX := Aside0.mk (blk_below X.out hb); have nB := Aside0.mk (below_step HB.out hb); clear X HB hb hX0 hX1 fX0 fX1 RV; have X := nX; have HB := nB; clear nX nB; (try clear hX0 hX1 fX0 fX1); have hX0 := (blk_cell X.out 0).trans rfl; have hX1 := (blk_cell X.out 1).trans rfl; have fX0 := blk_frozen X.out 0; have fX1 := blk_frozen X.out 1))
      go_wp2
      go_ret2
      exact ⟨by first | (rw [HWQ.out]; rfl) | rfl, HB.out⟩
set_option maxRecDepth 100000 in
set_option maxHeartbeats 4000000 in
theorem specOddDominating_any {W : World} {v : Value} {l : List Int} (own : Bool) {x : Int} {ok : Bool} (h : Rd W v l) (hr : allR l true = (x, ok)) : Calls Try.prog 40 #[.agg #[v, .bool own]] W fun e W' => e = .returned (.tuple #[.int .i64 x, .bool ok]) ∧ Below W.heap.size W W' := by
  have hu := Try.underlying29
  obtain ⟨A, c, rfl⟩ := h.slice
  have HB := Aside0.mk (below_alloc (Below.refl W.heap.size W) (.cells #[.slice A l.length c, .bool own] 29 (0, 0)))
  have X := Aside0.mk (blk_new W (.cells #[.slice A l.length c, .bool own] 29 (0, 0)))
  have R := Aside0.mk (h.alloc (.cells #[.slice A l.length c, .bool own] 29 (0, 0)))
  clear h
  go_enter Try.func40, Try.ntmps40
  go_upto_region 1 with (fail)
  generalize W.alloc (.cells #[.slice A l.length c, .bool own] 29 (0, 0)) = w1 at *
  (try clear hX0 hX1 fX0 fX1); have hX0 := (blk_cell X.out 0).trans rfl; have hX1 := (blk_cell X.out 1).trans rfl; have fX0 := blk_frozen X.out 0; have fX1 := blk_frozen X.out 1
  cases hg : good l
  · have h2 := (allR_bad (l := l) true 0 hg).2
    rw [h2] at hr
    injection hr with e1 e2
    subst e1 e2
    have HG := Aside0.mk hg
    clear hg h2
    go_wp2_with (go_at_call 61; (with_reducible refine (grGood_any2 own R.out HG.out).mono ?_); rintro e w2 ⟨rfl, hb⟩; have nB := Aside0.mk (below_step HB.out hb); clear X HB R hb hX0 hX1 fX0 fX1; have HB := nB; clear nB)
    go_ret2
    exact ⟨rfl, HB.out⟩
  · have hG := (good_iff l).1 hg
    obtain ⟨p, h1, ho⟩ := pa_own hG
    rw [h1] at hr
    injection hr with e1 e2
    subst e1 e2
    have HG := Aside0.mk hg
    have HGG := Aside0.mk hG
    have HO := Aside0.mk ho
    clear hg hG ho h1
    go_wp2_with (first
      | (go_at_call 61; (with_reducible refine (grGood_any2 own R.out HG.out).mono ?_); rintro e w2 ⟨rfl, hb⟩; have nX := Aside0.mk (blk_below X.out hb); have nR := Aside0.mk (R.out.below hb); have nB := Aside0.mk (below_step HB.out hb); clear X HB R hb hX0 hX1 fX0 fX1; have X := nX; have R := nR; have HB := nB; clear nX nR nB; (try clear hX0 hX1 fX0 fX1); have hX0 := (blk_cell X.out 0).trans rfl; have hX1 := (blk_cell X.out 1).trans rfl; have fX0 := blk_frozen X.out 0; have fX1 := blk_frozen X.out 1)
      | (go_at_call 77; (with_reducible refine (paDominating_any own R.out HGG.out rfl HO.out).mono ?_); rintro e w3 ⟨rfl, hb⟩; have nB := Aside0.mk (below_step HB.out hb); clear X HB R hb hX0 hX1 fX0 fX1; have HB := nB; clear nB))
    go_ret2
    exact ⟨rfl, HB.out⟩
set_option maxRecDepth 100000 in
set_option maxHeartbeats 4000000 in
theorem specCountOddDominating_any {W : World} {v : Value} {l : List Int} (own : Bool) {x : Int} {ok : Bool} (h : Rd W v l) (hr : oddCountR l = (x, ok)) : Calls Try.prog 42 #[.agg #[v, .bool own]] W fun e W' => e = .returned (.tuple #[.int .i64 x, .bool ok]) ∧ Below W.heap.size W W' := by
  have hu := Try.underlying29
  obtain ⟨A, c, rfl⟩ := h.slice
  have HB := Aside0.mk (below_alloc (Below.refl W.heap.size W) (.cells #[.slice A l.length c, .bool own] 29 (0, 0)))
  have X := Aside0.mk (blk_new W (.cells #[.slice A l.length c, .bool own] 29 (0, 0)))
  have R := Aside0.mk (h.alloc (.cells #[.slice A l.length c, .bool own] 29 (0, 0)))
  clear h
  unfold oddCountR at hr
  go_enter Try.func42, Try.ntmps42
  go_upto_region 1 with (fail)
  generalize W.alloc (.cells #[.slice A l.length c, .bool own] 29 (0, 0)) = w1 at *
  (try clear hX0 hX1 fX0 fX1); have hX0 := (blk_cell X.out 0).trans rfl; have hX1 := (blk_cell X.out 1).trans rfl; have fX0 := blk_frozen X.out 0; have fX1 := blk_frozen X.out 1
  cases hg : good l
  · rw [hg, if_neg (by decide)] at hr
    injection hr with e1 e2
    subst e1 e2
    have HG := Aside0.mk hg
    clear hg
    go_wp2_with (go_at_call 61; (with_reducible refine (grGood_any2 own R.out HG.out).mono ?_); rintro e w2 ⟨rfl, hb⟩; have nB := Aside0.mk (below_step HB.out hb); clear X HB R hb hX0 hX1 fX0 fX1; have HB := nB; clear nB)
    go_ret2
    exact ⟨rfl, HB.out⟩
  · have hG := (good_iff l).1 hg
    obtain ⟨p, h1, ho⟩ := pa_own hG
    rw [hg, if_pos rfl] at hr
    injection hr with e1 e2
    subst e2
    have HG := Aside0.mk hg
    have HGG := Aside0.mk hG
    have HO := Aside0.mk ho
    have HX := Aside0.mk e1
    clear hg hG ho h1 e1
    go_wp2_with (first
      | (go_at_call 61; (with_reducible refine (grGood_any2 own R.out HG.out).mono ?_); rintro e w2 ⟨rfl, hb⟩; have nX := Aside0.mk (blk_below X.out hb); have nR := Aside0.mk (R.out.below hb); have nB := Aside0.mk (below_step HB.out hb); clear X HB R hb hX0 hX1 fX0 fX1; have X := nX; have R := nR; have HB := nB; clear nX nR nB; (try clear hX0 hX1 fX0 fX1); have hX0 := (blk_cell X.out 0).trans rfl; have hX1 := (blk_cell X.out 1).trans rfl; have fX0 := blk_frozen X.out 0; have fX1 := blk_frozen X.out 1)
      | (go_at_call 77; (with_reducible refine (paDominating_any own R.out HGG.out rfl HO.out).mono ?_); rintro e w3 ⟨rfl, hb⟩; rw [HX.out]; have nB := Aside0.mk (below_step HB.out hb); clear X HB R hb hX0 hX1 fX0 fX1; have HB := nB; clear nB))
    go_ret2
    exact ⟨rfl, HB.out⟩
set_option maxRecDepth 100000 in
set_option maxHeartbeats 4000000 in
theorem OddDominating_any {W : World} {v : Value} {l : List Int} (own : Bool) {x : Int} {ok : Bool} (h : Rd W v l) (hr : allR l true = (x, ok)) : Calls Try.prog 39 #[.agg #[v, .bool own]] W fun e W' => e = .returned (.tuple #[.int .i64 x, .bool ok]) ∧ Below W.heap.size W W' := by
  have hu := Try.underlying29
  obtain ⟨A, c, rfl⟩ := h.slice
  have HB := Aside0.mk (below_alloc (Below.refl W.heap.size W) (.cells #[.slice A l.length c, .bool own] 29 (0, 0)))
  have X := Aside0.mk (blk_new W (.cells #[.slice A l.length c, .bool own] 29 (0, 0)))
  have R := Aside0.mk (h.alloc (.cells #[.slice A l.length c, .bool own] 29 (0, 0)))
  have HQ := Aside0.mk hr
  clear h hr
  go_enter Try.func39, Try.ntmps39
  go_upto_region 1 with (fail)
  generalize W.alloc (.cells #[.slice A l.length c, .bool own] 29 (0, 0)) = w1 at *
  (try clear hX0 hX1 fX0 fX1); have hX0 := (blk_cell X.out 0).trans rfl; have hX1 := (blk_cell X.out 1).trans rfl; have fX0 := blk_frozen X.out 0; have fX1 := blk_frozen X.out 1
  go_wp2_with (go_at_call 19; (with_reducible refine (AllOn_any true R.out HQ.out).mono ?_); rintro e w2 ⟨rfl, hb⟩; have nB := Aside0.mk (below_step HB.out hb); clear X HB R hb hX0 hX1 fX0 fX1; have HB := nB; clear nB)
  go_ret2
  exact ⟨rfl, HB.out⟩
set_option maxRecDepth 100000 in
set_option maxHeartbeats 4000000 in
theorem CountOddDominating_any {W : World} {v : Value} {l : List Int} (own : Bool) {x : Int} {ok : Bool} (h : Rd W v l) (hr : oddCountR l = (x, ok)) : Calls Try.prog 41 #[.agg #[v, .bool own]] W fun e W' => e = .returned (.tuple #[.int .i64 x, .bool ok]) ∧ Below W.heap.size W W' := by
  have hu := Try.underlying29
  obtain ⟨A, c, rfl⟩ := h.slice
  have HB := Aside0.mk (below_alloc (Below.refl W.heap.size W) (.cells #[.slice A l.length c, .bool own] 29 (0, 0)))
  have X := Aside0.mk (blk_new W (.cells #[.slice A l.length c, .bool own] 29 (0, 0)))
  have R := Aside0.mk (h.alloc (.cells #[.slice A l.length c, .bool own] 29 (0, 0)))
  clear h
  unfold oddCountR at hr
  go_enter Try.func41, Try.ntmps41
  go_upto_region 1 with (fail)
  generalize W.alloc (.cells #[.slice A l.length c, .bool own] 29 (0, 0)) = w1 at *
  (try clear hX0 hX1 fX0 fX1); have hX0 := (blk_cell X.out 0).trans rfl; have hX1 := (blk_cell X.out 1).trans rfl; have fX0 := blk_frozen X.out 0; have fX1 := blk_frozen X.out 1
  cases hg : good l
  · rw [hg, if_neg (by decide)] at hr
    injection hr with e1 e2
    subst e1 e2
    have HG := Aside0.mk hg
    clear hg
    go_wp2_with (go_at_call 15; (with_reducible refine (NullityOf_any true R.out HG.out rfl).mono ?_); rintro e w2 ⟨rfl, hb⟩; have nB := Aside0.mk (below_step HB.out hb); clear X HB R hb hX0 hX1 fX0 fX1; have HB := nB; clear nB)
    go_ret2
    exact ⟨rfl, HB.out⟩
  · have hG := (good_iff l).1 hg
    have hql : (svG l true).quiet.length ≤ 16 := by
      have h1 := (inv_graph hG true).rq
      have h2 := hG.top
      show (svOf (togs l true)).quiet.length ≤ 16
      omega
    rw [hg, if_pos rfl] at hr
    have hx : (if true = true then ((svOf (togs l true)).quiet.length : Int) else 0) = ((svG l true).quiet.length : Int) := if_pos rfl
    have HX := Aside0.mk hx
    injection hr with e1 e2
    subst e2
    generalize (svG l true).quiet.length = q at *
    have HG := Aside0.mk hg
    have hq16 : (2 : Nat) ^ q ≤ 2 ^ 16 := Nat.pow_le_pow_right (by decide) hql
    have hwq : wrap64 (2 ^ q) = x := by
      rw [← e1, ← pow_cast]
      generalize 2 ^ q = z at hq16 ⊢
      exact wrap_id (by omega) (by omega)
    clear e1
    have HWQ := Aside0.mk hwq
    clear hg hG hx hq16 hwq
    go_wp2_with (go_at_call 15; (with_reducible refine (NullityOf_any true R.out HG.out HX.out).mono ?_); rintro e w2 ⟨rfl, hb⟩; have nB := Aside0.mk (below_step HB.out hb); clear X HB R hb hX0 hX1 fX0 fX1; have HB := nB; clear nB)
    go_ret2
    exact ⟨by first | (rw [HWQ.out]; rfl) | rfl, HB.out⟩
theorem has_q (a t : Nat) (ha : a < 65536) {q : Bool} (hq : a.testBit t = q) : ∀ w, Calls Try.prog 81 #[.int .i64 (a : Int), .int .i64 (t : Int)] w fun r w' => r = .returned (.bool q) ∧ ∃ n, w' = w.drewN n := fun w =>
  (impl_has.calls (a : Int) (t : Int) q w ((impl_has.eq (a : Int) (t : Int) (by omega) (by omega) (by omega)).trans (by unfold bit; rw [Int.toNat_natCast, Int.toNat_natCast, hq]))).mono fun _ _ ⟨he, hd⟩ => ⟨he, hd.out⟩
theorem edge_cells {W : World} {A : Option Addr} {n : Nat} {xs : List (List Int)} (h : Kd.C (Kd.slice 3 (Kd.int .i64)) W A n xs) {k : Nat} (hk : k < n) {x y : Int} (hxy : xs.getD k [] = [x, y]) :
    ∃ ad ae c, A = some ad ∧ W.cell? (ad.add k) = some (.slice (some ae) 2 c) ∧ W.cell? ae = some (.int .i64 x) ∧ W.cell? (ae.add 1) = some (.int .i64 y) := by
  obtain ⟨ad, cs, e, _, hK, hcell⟩ := ReadsRow.get_ h [] (k : Int) (by omega) (by omega)
  rw [Int.toNat_natCast, hxy] at hK
  obtain ⟨B, c, e2, hl, hC⟩ := hK
  subst e2
  have h0 := hcell 0 _ rfl
  rw [Int.toNat_natCast, show k * (Kd.slice 3 (Kd.int .i64)).sz + 0 = k from Nat.mul_one k] at h0
  obtain ⟨ae, e3, h1⟩ := Kd.at_int hC 0 (by omega) (by simp)
  subst e3
  obtain ⟨ae2, e4, h2⟩ := Kd.at_int hC 1 (by omega) (by simp)
  injection e4 with e4
  subst e4
  exact ⟨ad, _, c, e, h0, by rw [← add_zero_ ae]; exact h1, h2⟩
set_option maxRecDepth 100000 in
set_option maxHeartbeats 4000000 in
theorem CutOf_any {W : World} {v : Value} {l : List Int} (own : Bool) {s : Nat} (h : Rd W v l) (hG : GoodG l) (hs : s < 2 ^ l.length) (hcl : ClosedS (nbs l) l.length s) :
    Calls Try.prog 47 #[.agg #[v, .bool own], .int .i64 (s : Int)] W fun e W' => ∃ a c, e = .returned (.tuple #[.slice a 0 c, .bool true]) ∧ Below W.heap.size W W' := by
  have hu := Try.underlying29
  obtain ⟨A, c, rfl⟩ := h.slice
  have HB := Aside0.mk (below_alloc (Below.refl W.heap.size W) (.cells #[.slice A l.length c, .bool own] 29 (0, 0)))
  have X := Aside0.mk (blk_new W (.cells #[.slice A l.length c, .bool own] 29 (0, 0)))
  have R := Aside0.mk (h.alloc (.cells #[.slice A l.length c, .bool own] 29 (0, 0)))
  have hok : boardOk l (s : Int) = true := by
    unfold boardOk
    have hc := pow_cast l.length
    rw [(good_iff l).2 hG]
    simp [inSet]
    omega
  have HK := Aside0.mk hok
  have HG := Aside0.mk hG
  have HR := Aside0.mk h
  have hg1 := hG.top
  have HN := Aside0.mk (cut_none hG hcl)
  have hel := edges_len hG
  have hs16 : s < 65536 := by
    have : (2 : Nat) ^ l.length ≤ 2 ^ 16 := Nat.pow_le_pow_right (by decide) hg1
    omega
  have HE := Aside0.mk (ev_get (impl_Graph_edges.ev l own hG))
  clear h hok hG hcl hs
  go_enter Try.func47, Try.ntmps47
  go_upto_region 1 with (fail)
  generalize W.alloc (.cells #[.slice A l.length c, .bool own] 29 (0, 0)) = w1 at *
  (try clear hX0 hX1 fX0 fX1); have hX0 := (blk_cell X.out 0).trans rfl; have hX1 := (blk_cell X.out 1).trans rfl; have fX0 := blk_frozen X.out 0; have fX1 := blk_frozen X.out 1
  go_upto_region 3 with (go_at_call 67; (with_reducible refine (isSet_any own (s : Int) R.out HK.out).mono ?_); rintro e w2 ⟨rfl, hb⟩; have nX := Aside0.mk (blk_below X.out hb); have nR := Aside0.mk (R.out.below hb); have nB := Aside0.mk (below_step HB.out hb); clear X HB R hb hX0 hX1 fX0 fX1; have X := nX; have R := nR; have HB := nB; clear nX nR nB; (try clear hX0 hX1 fX0 fX1); have hX0 := (blk_cell X.out 0).trans rfl; have hX1 := (blk_cell X.out 1).trans rfl; have fX0 := blk_frozen X.out 0; have fX1 := blk_frozen X.out 1)
  have nX := Aside0.mk (blk_alloc X.out (.cells #[] 27 (0, 0)))
  have nR := Aside0.mk (R.out.alloc (.cells #[] 27 (0, 0)))
  have nB := Aside0.mk (below_alloc HB.out (.cells #[] 27 (0, 0)))
  clear X R HB hX0 hX1 fX0 fX1
  have X := nX
  have R := nR
  have HB := nB
  clear nX nR nB
  obtain ⟨K, hK⟩ := HE.out
  have hCC : ∀ w3, Below W.heap.size W w3 → Calls Try.prog 80 #[.agg #[.slice A l.length c, .bool own]] w3 fun e w' => ∃ v0 : Value, e = .returned v0 ∧ Kd.S (Kd.slice 3 (Kd.int .i64)) 27 w' w3.heap.size (fun _ => True) v0 (edgesOf l) ∧ Below w3.heap.size w3 w' := fun w3 hb => by
    obtain ⟨A', c', e', hc', hC', _⟩ := HR.out.below hb
    injection e' with e1 e2 e3
    subst e1 e3
    exact impl_Graph_edges.calls K _ _ l own _ w3 hC' hc' (hK K (Nat.le_refl _))
  have HC := Aside0.mk hCC
  clear hCC hK HE
  (try clear hX0 hX1 fX0 fX1); have hX0 := (blk_cell X.out 0).trans rfl; have hX1 := (blk_cell X.out 1).trans rfl; have fX0 := blk_frozen X.out 0; have fX1 := blk_frozen X.out 1
  generalize edgesOf l = E at *
  go_upto_region 5 with (go_at_call 80; (with_reducible refine (HC.out _ HB.out).mono ?_); rintro e w3 ⟨v0, rfl, hs, hb⟩; obtain ⟨Ae, ce, rfl, hce, hCe⟩ := Kd.R_reads (Kd.S_R hs); have HE := Aside0.mk hCe; have nB := Aside0.mk (below_step HB.out hb); clear X HB R hb hX0 hX1 fX0 fX1 hs hce hCe HC; have HB := nB; clear nB)
  go_loopw [6, 18] (fun v6 v18 wr => ∃ k : Nat, k ≤ E.length ∧ v18 = .int .i64 (k : Int) ∧ v6 = .slice (some ⟨w2.heap.size, 0, none⟩) 0 0 ∧ Aside0 (Kd.C (Kd.slice 3 (Kd.int .i64)) wr Ae E.length E) ∧ Aside0 (Below W.heap.size W wr)) (fun _ v18 _ => E.length - (intOf v18).toNat)
  case atStart => exact ⟨0, Nat.zero_le _, rfl, rfl, HE, HB⟩
  case round =>
    clear HE HB
    obtain ⟨k, hk, rfl, rfl, HE, HB⟩ := hrel
    by_cases hlt : k < E.length
    · obtain ⟨x, y, hx, hy, hxy, hbb⟩ := HN.out k hlt
      obtain ⟨ad, ae, c2, rfl, hc1, hc2, hc3⟩ := edge_cells HE.out hlt (x := (x : Int)) (y := (y : Int)) (by rw [List.getD_eq_getElem?_getD, List.getElem?_eq_getElem hlt, Option.getD_some, hxy])
      have hc3 : wr.cell? ⟨ae.block, ae.off + 1, none⟩ = some (.int .i64 (y : Int)) := hc3
      have hx16 : x < 65536 := by omega
      have hy16 : y < 65536 := by omega
      obtain ⟨q, hq⟩ : ∃ q, s.testBit x = q := ⟨_, rfl⟩
      rw [hq] at hbb
      have H1 := Aside0.mk hq
      have H2 := Aside0.mk hbb.symm
      clear hq hbb hxy hx hy
      go_upto_region 7 with (fail)
      cases q
      all_goals
        go_region_held3 (fun w' => w'.cell? ae = some (.int .i64 (x : Int)) ∧ w'.cell? ⟨ae.block, ae.off + 1, none⟩ = some (.int .i64 (y : Int))) (first | go_keep) (first
          | (go_at_call 81; (with_reducible refine (has_q s x hs16 H1.out _).mono ?_); rintro r w4 ⟨rfl, n1, rfl⟩)
          | (go_at_call 81; (with_reducible refine (has_q s y hs16 H2.out _).mono ?_); rintro r w4 ⟨rfl, n1, rfl⟩))
        go_wp2
        go_roundw
        case rel => exact ⟨k + 1, by omega, by go_num, rfl, ⟨Kd.C_below HE.out (pw_below_drewN (Below.refl _ _) _)⟩, ⟨pw_below_drewN HB.out _⟩⟩
        case measure => simp [intOf]; omega
    · go_wp2
      go_ret2
      exact ⟨_, _, rfl, HB.out⟩
end Go.Proofs.Ytlioggjncgfioaa.Draw
