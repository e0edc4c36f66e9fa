/- What is drawn for FnSplitsOfGraphs: within bounds, whatever it is. -/
import Derived.Test.YtlohlngmagpepaaGreatPFnSplitsOfGraphsx
import Derived.Test.YtlohlngmagpepaaGreatQFnSplitsOfGraphs0
import Derived.Test.YtlohlngmagpepaaGreatQFnSplitsOfGraphs1
import Derived.Test.YtlohlngmagpepaaGreatM1
import Derived.Test.YtlohlngmagpepaaGreatM40
import Derived.Test.YtlohlngmagpepaaGreatM41
import Derived.Test.YtlohlngmagpepaaGreatM9
import Derived.WalkKit
import Derived.RowKit3
import Derived.Deep.QuietTactic
import Derived.BigQuiet
import Derived.Deep.DeepCutAuto
import Derived.Deep.CutBlock
import Derived.Deep.LoopGhost
import Derived.Outline
import Derived.Deep.DeepFit
import Derived.Test.YtlohlngmagpepaaGreatDFnSplitsOfGraphs0
import Derived.Test.YtlohlngmagpepaaGreatDFnSplitsOfGraphs1
import Derived.Test.YtlohlngmagpepaaGreatDFnSplitsOfGraphs2
import Derived.Test.YtlohlngmagpepaaGreatDFnSplitsOfGraphs3
import Derived.Test.YtlohlngmagpepaaGreatDFnSplitsOfGraphs4
namespace Go.Proofs.YtlohlngmagpepaaGreat.Draw
open Go.RowKit Go.Proofs.YtlohlngmagpepaaGreat.PFnSplitsOfGraphs Go.Proofs.YtlohlngmagpepaaGreatW.PrintWords Go.Proofs.YtlohlngmagpepaaGreatW.PrintLast Go.Proofs.YtlohlngmagpepaaGreatW.PrintMore Go.Proofs.YtlohlngmagpepaaGreatM Go.Proofs.YtlohlngmagpepaaGreat.Pure
attribute [local go_sem] max2_int min2_int max_two min_two max_three min_three max_four min_four
set_option linter.unusedVariables false
set_option linter.unusedSimpArgs false
variable {w0 w w1 W : World} {g : Nat} {a : Int}
/-! Splits: both sides. -/
theorem grGood_s {W : World} {v : Value} {l : List Int} (own : Bool) {b : Bool} (h : Rd W v l) (hb : good l = b) : Calls Tryz.prog 76 #[.agg #[v, .bool own]] W fun e W' => e = .returned (.bool b) ∧ Below W.heap.size W W' := by
  obtain ⟨A, c, rfl, hc, hC, hl⟩ := h
  obtain ⟨K, hK⟩ := ev_get (spec_grGood.ev l own (by omega))
  exact spec_grGood.calls K A c l own b W hC hc ((hK K (Nat.le_refl _)).trans (by rw [hb]))
theorem count_q (a : Nat) (ha : a < 65536) : ∀ w, Calls Tryz.prog 90 #[.int .i64 (a : Int)] w fun r w' => r = .returned (.int .i64 ((pop a : Nat) : Int)) ∧ ∃ n, w' = w.drewN n := fun w =>
  (impl_count.calls (a : Int) _ w (impl_count.eq (a : Int) (by omega) (by omega))).mono fun _ _ ⟨he, hd⟩ => ⟨he, hd.out⟩
theorem svP_small {l : List Int} (hG : GoodG l) (r : Nat) : SvOk l.length l.length l.length (svP l r) := by
  have h2 : ∀ e ∈ rowsP l r, e < 2 ^ l.length := fun e he => by
    obtain ⟨i, hi, rfl⟩ := List.mem_map.1 he
    exact (rowP_sym hG r).lt i (List.mem_range.1 hi)
  have h1 := hG.top
  have := svOk_of (n := l.length) (l := rowsP l r) (by rw [rowsP_length]; omega) h2
  rwa [rowsP_length] at this
set_option maxRecDepth 100000 in
set_option maxHeartbeats 4000000 in
theorem splits_any {W : World} {v : Value} {l : List Int} (own : Bool) {r : Nat} (h : Rd W v l) (hG : GoodG l) (hr : r < 2) :
    Calls Tryz.prog 82 #[.agg #[v, .bool own], .int .i64 (r : Int)] W fun e W' => ∃ b, e = .returned (.tuple #[.pointer (some ⟨b, 0, none⟩), .int .i64 ((dueP l r l.length : Nat) : Int)]) ∧ W.heap.size ≤ b ∧ SvAt W' b (svP l r) ∧ Below W.heap.size W W' := by
  have hu := Tryz.underlying26
  have hlen := h.len
  obtain ⟨A, c, rfl⟩ := h.slice
  have HR := Aside0.mk h
  have HG := Aside0.mk hG
  have hg1 := hG.top
  have HB := Aside0.mk (below_alloc (Below.refl W.heap.size W) (.cells #[.slice A l.length c, .bool own] 26 (0, 0)))
  have X := Aside0.mk (blk_new W (.cells #[.slice A l.length c, .bool own] 26 (0, 0)))
  clear h hG
  go_enter Tryz.func82, Tryz.ntmps82
  go_upto_region 1 with (fail)
  generalize W.alloc (.cells #[.slice A l.length c, .bool own] 26 (0, 0)) = w1 at *
  have hbl := blk_lt X.out
  have HV := Aside0.mk (Kd.R_of_own (h1 := fun _ => rfl) (enc := Value.int .i64) (xs := []) (ok := fun _ => True) (World.ownsRow_made (base := W.heap.size + 1) (e := 3) w1 #[] 0 hbl (Nat.zero_le _) rfl) (fun _ _ => trivial))
  have nX := Aside0.mk (blk_alloc X.out (.cells #[] 3 (0, 0)))
  have nB := Aside0.mk (below_alloc HB.out (.cells #[] 3 (0, 0)))
  clear X HB
  have X := nX
  have HB := nB
  clear nX nB
  go_upto_region 2 with (fail)
  generalize w1.alloc (.cells #[] 3 (0, 0)) = w2 at *
  (try clear hX0 hX1 fX0 fX1); have hX0 := (blk_cell X.out 0).trans rfl; have hX1 := (blk_cell X.out 1).trans rfl; have fX0 := blk_frozen X.out 0; have fX1 := blk_frozen X.out 1
  go_wp2
  go_loopw [6, 7, 14] (fun v6 v7 v14 wr => ∃ j : Nat, j ≤ l.length ∧ v14 = .int .i64 (j : Int) ∧ v7 = .int .i64 ((dueP l r j : Nat) : Int) ∧ Aside0 (Kd.R (Kd.int .i64) 3 wr (W.heap.size + 1) (fun _ => True) v6 (ints ((List.range j).map (rowP l r)))) ∧ Aside0 (wr.heap[W.heap.size]? = some (.cells #[.slice A l.length c, .bool own] 26 (0, 0))) ∧ Aside0 (Below W.heap.size W wr)) (fun _ _ v14 _ => l.length - (intOf v14).toNat)
  case atStart => exact ⟨0, Nat.zero_le _, rfl, rfl, HV, X, HB⟩
  case round =>
    clear HV X HB hX0 hX1 fX0 fX1
    obtain ⟨j, hj, rfl, rfl, HV, X, HB⟩ := hrel
    (try clear hX0 hX1 fX0 fX1); have hX0 := (blk_cell X.out 0).trans rfl; have hX1 := (blk_cell X.out 1).trans rfl; have fX0 := blk_frozen X.out 0; have fX1 := blk_frozen X.out 1
    have hbl2 := blk_lt X.out
    by_cases hlt : j < l.length
    · have h16 : (2 : Nat) ^ l.length ≤ 2 ^ 16 := Nat.pow_le_pow_right (by decide) hg1
      have htk : ints ((List.range (j + 1)).map (rowP l r)) = ints ((List.range j).map (rowP l r)) ++ [((rowP l r j : Nat) : Int)] := by
        rw [List.range_succ, List.map_append, ints_append]
        rfl
      have hwl : (ints ((List.range j).map (rowP l r))).length = j := by rw [ints_length, List.length_map, List.length_range]
      generalize ints ((List.range j).map (rowP l r)) = word at *
      obtain ⟨ad, e1, hc_⟩ := HR.out.cell (j : Int) (by omega) (by omega)
      subst e1
      clear hc_
      have hcell := (HR.out.below HB.out).cellN j (by omega)
      have hn := nb_lt HG.out hlt
      rw [nb_rd HG.out hlt] at hcell
      have hd := dueP_lt l r j
      have hpj : (2 : Nat) ^ j < 2 ^ l.length := Nat.pow_lt_pow_right (by decide) hlt
      have ha16 : nb l j < 65536 := by omega
      have hz16 : (2 : Nat) ^ j < 65536 := by omega
      have hd16 : dueP l r j < 65536 := Nat.lt_trans hd hz16
      have hwz : wrap64 (2 ^ j) = ((2 ^ j : Nat) : Int) := by
        have h5 : (2 : Nat) ^ j < 65536 := by omega
        rw [← pow_cast]
        generalize 2 ^ j = z at h5 ⊢
        exact wrap_id (by omega) (by omega)
      have HWZ := Aside0.mk hwz
      clear hwz
      have ER := Aside0.mk (show rowP l r j = if duP l r j = true then nb l j ||| 2 ^ j else nb l j from rfl)
      obtain ⟨d1, hd1⟩ : ∃ d1, dueP l r (j + 1) = d1 := ⟨_, rfl⟩
      have ED := Aside0.mk (hd1.symm.trans (show dueP l r (j + 1) = if duP l r j = true then dueP l r j ||| 2 ^ j else dueP l r j from rfl))
      have HD1 := Aside0.mk hd1
      have HDU := Aside0.mk (show decide ((pop (nb l j) + r) % 2 = 1) = duP l r j from rfl)
      have hpop : pop (nb l j) ≤ 16 := Nat.le_trans (pop_le (by omega) hn) hg1
      have HTK := Aside0.mk htk
      clear hd1 hd hpj h16 htk hn
      generalize dueP l r j = d at *
      generalize rowP l r j = x at *
      generalize nb l j = a at *
      generalize (2 : Nat) ^ j = z at *
      generalize duP l r j = du at *
      have xd : Go.bits .or .i64 (d : Int) (z : Int) = ((d ||| z : Nat) : Int) := or_nat d z (by omega) (by omega)
      have xa : Go.bits .or .i64 (a : Int) (z : Int) = ((a ||| z : Nat) : Int) := or_nat a z (by omega) (by omega)
      have hdu := HDU.out
      have er := ER.out
      obtain ⟨az, haz⟩ : ∃ n, a ||| z = n := ⟨_, rfl⟩
      rw [haz] at er xa
      have t1 : ((Int.tmod (((pop a : Nat) : Int) + (r : Int)) 2) == 1) = du := by
        rw [show (((pop a : Nat) : Int) + (r : Int)) = ((pop a + r : Nat) : Int) from (Int.natCast_add _ _).symm, show Int.tmod ((pop a + r : Nat) : Int) 2 = (((pop a + r) % 2 : Nat) : Int) from rfl, ← hdu]
        generalize pop a + r = y
        rw [Bool.eq_iff_iff, beq_iff_eq, decide_eq_true_eq]
        omega
      have t2 : (((((pop a : Nat) : Int) + (r : Int)) % 2) == 1) = du := by
        rw [← hdu, Bool.eq_iff_iff, beq_iff_eq, decide_eq_true_eq]
        omega
      have hpop2 : ((pop a : Nat) : Int) ≤ 16 := by omega
      have HED := ED
      have hwz := HWZ.out
      clear hdu hpop haz ER ED HDU HWZ
      cases du
      all_goals
        have HER := Aside0.mk er
        clear er
        go_wp2_with (first
          | (go_at_call 90; (with_reducible refine (count_q a ha16 _).mono ?_); rintro e w4 ⟨rfl, n1, rfl⟩; have hb := pw_below_drewN (Below.refl wr.heap.size wr) n1; have nX := Aside0.mk (blk_below X.out hb); have nV := Aside0.mk (Kd.R_below HV.out hb); have nB := Aside0.mk (below_step HB.out hb); clear X HV HB hb hX0 hX1 fX0 fX1 hbl2 hcell; generalize wr.drewN n1 = w4 at *; have X := nX; have HV := nV; have HB := nB; clear nX nV nB; have hbl2 := blk_lt X.out)
          | ((with_reducible refine gate_builtin (b := .append) (xs := #[.tmp 33, .tmp 35]) rfl ?_); at_builtin; refine Kd.R_append (Kd.int .i64) (W.heap.size + 1) rfl (.tmp 33) (.tmp 35) 24 3 (.int .i64 0) 8 rfl Tryz.underlying24 info3 rfl (by decide) (by omega) (u6) word ((az : Int)) [.int .i64 ((az : Int))] (fun _ => True) (fun _ => False) rfl (by first | (go_simp; done) | (go_simp; rfl)) ?aP (fun _ hk => hk.elim) (fun _ _ => trivial) HV.out (Below.refl _ _) ?aS ?aL ?_; (case aP => exact rfl); (case aS => exact hbl2); (case aL => omega); intro v5 w5 ho hb _ _; have nX := Aside0.mk ((hb.block W.heap.size (Nat.lt_succ_self _)).trans X.out); have nB := Aside0.mk (HB.out.trans (hb.mono (Nat.le_succ _))); have nV := Aside0.mk ho; clear X HB HV hb ho hbl2; have X := nX; have HB := nB; have HV := nV; clear nX nB nV)
          | ((with_reducible refine gate_builtin (b := .append) (xs := #[.tmp 33, .tmp 35]) rfl ?_); at_builtin; refine Kd.R_append (Kd.int .i64) (W.heap.size + 1) rfl (.tmp 33) (.tmp 35) 24 3 (.int .i64 0) 8 rfl Tryz.underlying24 info3 rfl (by decide) (by omega) (u6) word ((a : Int)) [.int .i64 ((a : Int))] (fun _ => True) (fun _ => False) rfl (by first | (go_simp; done) | (go_simp; rfl)) ?aP (fun _ hk => hk.elim) (fun _ _ => trivial) HV.out (Below.refl _ _) ?aS ?aL ?_; (case aP => exact rfl); (case aS => exact hbl2); (case aL => omega); intro v5 w5 ho hb _ _; have nX := Aside0.mk ((hb.block W.heap.size (Nat.lt_succ_self _)).trans X.out); have nB := Aside0.mk (HB.out.trans (hb.mono (Nat.le_succ _))); have nV := Aside0.mk ho; clear X HB HV hb ho hbl2; have X := nX; have HB := nB; have HV := nV; clear nX nB nV))
        go_roundw
        case rel => exact ⟨j + 1, by omega, by go_num, by rw [HD1.out, HED.out]; rfl, ⟨by rw [HTK.out, HER.out]; exact HV.out⟩, X, HB⟩
        case measure => simp [intOf]; omega
    · have ej : j = l.length := by omega
      subst ej
      have hV := HV.out
      rw [show (List.range l.length).map (rowP l r) = rowsP l r from rfl] at hV
      obtain ⟨Av, cv, rfl⟩ := Kd.R_slice hV
      have RV := Aside0.mk (Rd.of hV (by rw [ints_length, rowsP_length]; omega))
      have hb16 : (2 : Nat) ^ l.length < 2 ^ 62 := Nat.pow_lt_pow_right (by decide) (by omega)
      have HT : Aside0 (∀ e ∈ rowsP l r, e < 2 ^ 62) := ⟨fun e he => by
        obtain ⟨i, hi, rfl⟩ := List.mem_map.1 he
        exact Nat.lt_trans ((rowP_sym HG.out r).lt i (List.mem_range.1 hi)) hb16⟩
      have htl2 : (rowsP l r).length ≤ 61 := by rw [rowsP_length]; omega
      clear hV HV
      go_wp2_with (go_at_call 129; (with_reducible refine (solverFor_any RV.out htl2 HT.out).mono ?_); rintro e w4 ⟨b, rfl, hle, hs, hb⟩; have HS := Aside0.mk hs; have nB := Aside0.mk (below_step HB.out hb); have hle2 := Nat.le_trans HB.out.size hle; clear hs hb HB; have HB := nB; clear nB)
      go_ret2
      exact ⟨b, rfl, hle2, HS.out, HB.out⟩
theorem splits_zero {W : World} {v : Value} {l : List Int} (own : Bool) (h : Rd W v l) (hG : GoodG l) :
    Calls Tryz.prog 82 #[.agg #[v, .bool own], .int .i64 0] W fun e W' => ∃ b, e = .returned (.tuple #[.pointer (some ⟨b, 0, none⟩), .int .i64 ((dueP l 0 l.length : Nat) : Int)]) ∧ W.heap.size ≤ b ∧ SvAt W' b (svP l 0) ∧ Below W.heap.size W W' := splits_any own (r := 0) h hG (by decide)
set_option maxRecDepth 100000 in
set_option maxHeartbeats 4000000 in
theorem split_any {W : World} {v : Value} {l : List Int} (own : Bool) {r : Nat} {x : Int} {ok : Bool} (h : Rd W v l) (hr2 : r < 2) (hr : splitR l r = (x, ok)) : Calls Tryz.prog 75 #[.agg #[v, .bool own], .int .i64 (r : Int)] W fun e W' => e = .returned (.tuple #[.int .i64 x, .bool ok]) ∧ Below W.heap.size W W' := by
  have hu := Tryz.underlying26
  obtain ⟨A, c, rfl⟩ := h.slice
  have HB := Aside0.mk (below_alloc (Below.refl W.heap.size W) (.cells #[.slice A l.length c, .bool own] 26 (0, 0)))
  have X := Aside0.mk (blk_new W (.cells #[.slice A l.length c, .bool own] 26 (0, 0)))
  have R := Aside0.mk (h.alloc (.cells #[.slice A l.length c, .bool own] 26 (0, 0)))
  have hu2 := Tryz.underlying73
  clear h
  go_enter Tryz.func75, Tryz.ntmps75
  go_upto_region 1 with (fail)
  generalize W.alloc (.cells #[.slice A l.length c, .bool own] 26 (0, 0)) = w1 at *
  (try clear hX0 hX1 fX0 fX1); have hX0 := (blk_cell X.out 0).trans rfl; have hX1 := (blk_cell X.out 1).trans rfl; have fX0 := blk_frozen X.out 0; have fX1 := blk_frozen X.out 1
  cases hg : good l
  · rw [split_bad r hg] at hr
    injection hr with e1 e2
    subst e1 e2
    have HG := Aside0.mk hg
    clear hg
    go_wp2_with (go_at_call 79; (with_reducible refine (isGraph_any own R.out HG.out).mono ?_); rintro e w2 ⟨rfl, hb⟩; have nB := Aside0.mk (below_step HB.out hb); clear X HB R hb hX0 hX1 fX0 fX1; have HB := nB; clear nB)
    go_ret2
    exact ⟨rfl, HB.out⟩
  · have hG := (good_iff l).1 hg
    rw [split_good r hg] at hr
    injection hr with e1 e2
    subst e1 e2
    have HG := Aside0.mk hg
    have HGG := Aside0.mk hG
    have HSM := Aside0.mk (svP_small hG r)
    have HDL := Aside0.mk (dueP_lt l r l.length)
    have hdd : decide ((reach (svP l r).ps (dueP l r l.length)).1 = 0) = true := decide_eq_true (due_reach hG r)
    have HDD := Aside0.mk hdd
    clear hg hG hdd
    go_wp2_with (first
      | (go_at_call 79; (with_reducible refine (isGraph_any own R.out HG.out).mono ?_); rintro e w2 ⟨rfl, hb⟩; have nX := Aside0.mk (blk_below X.out hb); have nR := Aside0.mk (R.out.below hb); have nB := Aside0.mk (below_step HB.out hb); clear X HB R hb hX0 hX1 fX0 fX1; have X := nX; have R := nR; have HB := nB; clear nX nR nB; (try clear hX0 hX1 fX0 fX1); have hX0 := (blk_cell X.out 0).trans rfl; have hX1 := (blk_cell X.out 1).trans rfl; have fX0 := blk_frozen X.out 0; have fX1 := blk_frozen X.out 1)
      | (go_at_call 82; (with_reducible refine (splits_any own R.out HGG.out hr2).mono ?_); rintro e w3 ⟨bs, rfl, hle, hs, hb⟩; have HS := Aside0.mk hs; clear hs hle; have nB := Aside0.mk (below_step HB.out hb); clear X HB R hb hX0 hX1 fX0 fX1; have HB := nB; clear nB)
      | (go_at_call 115; (with_reducible refine (solve_gen HGG.out.top HSM.out HS.out HDL.out).mono ?_); rintro e w4 ⟨rfl, hb⟩; rw [HDD.out]; have nB := Aside0.mk (below_step HB.out hb); clear HS HB hb; have HB := nB; clear nB)
      | (go_at_call 123; (with_reducible refine (told_true _ _).mono ?_); rintro e w5 ⟨rfl, hb⟩; have nB := Aside0.mk (below_step HB.out hb); clear HB hb; have HB := nB; clear nB))
    go_ret2
    exact ⟨rfl, HB.out⟩
theorem split_zero {W : World} {v : Value} {l : List Int} (own : Bool) {x : Int} {ok : Bool} (h : Rd W v l) (hr : splitR l 0 = (x, ok)) : Calls Tryz.prog 75 #[.agg #[v, .bool own], .int .i64 0] W fun e W' => e = .returned (.tuple #[.int .i64 x, .bool ok]) ∧ Below W.heap.size W W' := split_any own (r := 0) h (by decide) hr
theorem split_one {W : World} {v : Value} {l : List Int} (own : Bool) {x : Int} {ok : Bool} (h : Rd W v l) (hr : splitR l 1 = (x, ok)) : Calls Tryz.prog 75 #[.agg #[v, .bool own], .int .i64 1] W fun e W' => e = .returned (.tuple #[.int .i64 x, .bool ok]) ∧ Below W.heap.size W W' := split_any own (r := 1) h (by decide) hr
set_option maxRecDepth 100000 in
set_option maxHeartbeats 4000000 in
theorem countSplits_any {W : World} {v : Value} {l : List Int} (own : Bool) {r : Nat} {x : Int} {ok : Bool} (h : Rd W v l) (hr2 : r < 2) (hr : cntR l r = (x, ok)) : Calls Tryz.prog 78 #[.agg #[v, .bool own], .int .i64 (r : Int)] W fun e W' => e = .returned (.tuple #[.int .i64 x, .bool ok]) ∧ Below W.heap.size W W' := by
  have hu := Tryz.underlying26
  obtain ⟨A, c, rfl⟩ := h.slice
  have HB := Aside0.mk (below_alloc (Below.refl W.heap.size W) (.cells #[.slice A l.length c, .bool own] 26 (0, 0)))
  have X := Aside0.mk (blk_new W (.cells #[.slice A l.length c, .bool own] 26 (0, 0)))
  have R := Aside0.mk (h.alloc (.cells #[.slice A l.length c, .bool own] 26 (0, 0)))
  have hu2 := Tryz.underlying73
  clear h
  go_enter Tryz.func78, Tryz.ntmps78
  go_upto_region 1 with (fail)
  generalize W.alloc (.cells #[.slice A l.length c, .bool own] 26 (0, 0)) = w1 at *
  (try clear hX0 hX1 fX0 fX1); have hX0 := (blk_cell X.out 0).trans rfl; have hX1 := (blk_cell X.out 1).trans rfl; have fX0 := blk_frozen X.out 0; have fX1 := blk_frozen X.out 1
  cases hg : good l
  · rw [cnt_bad r hg] at hr
    injection hr with e1 e2
    subst e1 e2
    have HG := Aside0.mk hg
    clear hg
    go_wp2_with (go_at_call 79; (with_reducible refine (isGraph_any own R.out HG.out).mono ?_); rintro e w2 ⟨rfl, hb⟩; have nB := Aside0.mk (below_step HB.out hb); clear X HB R hb hX0 hX1 fX0 fX1; have HB := nB; clear nB)
    go_ret2
    exact ⟨rfl, HB.out⟩
  · have hG := (good_iff l).1 hg
    rw [cnt_good r hg] at hr
    injection hr with e1 e2
    subst e2
    have HG := Aside0.mk hg
    have HGG := Aside0.mk hG
    have hql := (svP_quiet hG r).2.1
    have htop := hG.top
    have hql2 : (svP l r).quiet.length ≤ 16 := by omega
    have hq16 : (2 : Nat) ^ (svP l r).quiet.length ≤ 2 ^ 16 := Nat.pow_le_pow_right (by decide) hql2
    have hwq : wrap64 (2 ^ (svP l r).quiet.length) = x := by
      rw [← e1, ← pow_cast]
      generalize 2 ^ (svP l r).quiet.length = z at hq16 ⊢
      exact wrap_id (by omega) (by omega)
    have HWQ := Aside0.mk hwq
    clear hg hG hq16 hwq e1 hql htop
    go_wp2_with (first
      | (go_at_call 79; (with_reducible refine (isGraph_any own R.out HG.out).mono ?_); rintro e w2 ⟨rfl, hb⟩; have nX := Aside0.mk (blk_below X.out hb); have nR := Aside0.mk (R.out.below hb); have nB := Aside0.mk (below_step HB.out hb); clear X HB R hb hX0 hX1 fX0 fX1; have X := nX; have R := nR; have HB := nB; clear nX nR nB; (try clear hX0 hX1 fX0 fX1); have hX0 := (blk_cell X.out 0).trans rfl; have hX1 := (blk_cell X.out 1).trans rfl; have fX0 := blk_frozen X.out 0; have fX1 := blk_frozen X.out 1)
      | (go_at_call 82; (with_reducible refine (splits_any own R.out HGG.out hr2).mono ?_); rintro e w3 ⟨bs, rfl, hle, hs, hb⟩; obtain ⟨vp, vq, vi, hS, hP, hQ, hI⟩ := hs; obtain ⟨Aq, cq, rfl⟩ := Kd.R_slice hQ; rw [ints_length] at hS; have hS1 := (blk_cell hS 1).trans rfl; clear hS hP hQ hI hle; have nB := Aside0.mk (below_step HB.out hb); clear X HB R hb hX0 hX1 fX0 fX1; have HB := nB; clear nB))
    go_ret2
    exact ⟨by first | (rw [HWQ.out]; rfl) | rfl, HB.out⟩
theorem count_zero {W : World} {v : Value} {l : List Int} (own : Bool) {x : Int} {ok : Bool} (h : Rd W v l) (hr : cntR l 0 = (x, ok)) : Calls Tryz.prog 78 #[.agg #[v, .bool own], .int .i64 0] W fun e W' => e = .returned (.tuple #[.int .i64 x, .bool ok]) ∧ Below W.heap.size W W' := countSplits_any own (r := 0) h (by decide) hr
theorem count_one {W : World} {v : Value} {l : List Int} (own : Bool) {x : Int} {ok : Bool} (h : Rd W v l) (hr : cntR l 1 = (x, ok)) : Calls Tryz.prog 78 #[.agg #[v, .bool own], .int .i64 1] W fun e W' => e = .returned (.tuple #[.int .i64 x, .bool ok]) ∧ Below W.heap.size W W' := countSplits_any own (r := 1) h (by decide) hr
set_option maxRecDepth 100000 in
set_option maxHeartbeats 4000000 in
theorem implEvenSplit_any {W : World} {v : Value} {l : List Int} (own : Bool) {x : Int} {ok : Bool} (h : Rd W v l) (hr : splitR l 0 = (x, ok)) : Calls Tryz.prog 8 #[.agg #[v, .bool own]] W fun e W' => e = .returned (.tuple #[.int .i64 x, .bool ok]) ∧ Below W.heap.size W W' := by
  have hu := Tryz.underlying26
  obtain ⟨A, c, rfl⟩ := h.slice
  have HB := Aside0.mk (below_alloc (Below.refl W.heap.size W) (.cells #[.slice A l.length c, .bool own] 26 (0, 0)))
  have X := Aside0.mk (blk_new W (.cells #[.slice A l.length c, .bool own] 26 (0, 0)))
  have R := Aside0.mk (h.alloc (.cells #[.slice A l.length c, .bool own] 26 (0, 0)))
  have HQ := Aside0.mk hr
  clear h hr
  go_enter Tryz.func8, Tryz.ntmps8
  go_upto_region 1 with (fail)
  generalize W.alloc (.cells #[.slice A l.length c, .bool own] 26 (0, 0)) = w1 at *
  (try clear hX0 hX1 fX0 fX1); have hX0 := (blk_cell X.out 0).trans rfl; have hX1 := (blk_cell X.out 1).trans rfl; have fX0 := blk_frozen X.out 0; have fX1 := blk_frozen X.out 1
  go_wp2_with (go_at_call 75; (with_reducible refine (split_zero own R.out HQ.out).mono ?_); rintro e w2 ⟨rfl, hb⟩; have nB := Aside0.mk (below_step HB.out hb); clear X HB R hb hX0 hX1 fX0 fX1; have HB := nB; clear nB)
  go_ret2
  exact ⟨rfl, HB.out⟩
set_option maxRecDepth 100000 in
set_option maxHeartbeats 4000000 in
theorem implEvenOddSplit_any {W : World} {v : Value} {l : List Int} (own : Bool) {x : Int} {ok : Bool} (h : Rd W v l) (hr : splitR l 1 = (x, ok)) : Calls Tryz.prog 10 #[.agg #[v, .bool own]] W fun e W' => e = .returned (.tuple #[.int .i64 x, .bool ok]) ∧ Below W.heap.size W W' := by
  have hu := Tryz.underlying26
  obtain ⟨A, c, rfl⟩ := h.slice
  have HB := Aside0.mk (below_alloc (Below.refl W.heap.size W) (.cells #[.slice A l.length c, .bool own] 26 (0, 0)))
  have X := Aside0.mk (blk_new W (.cells #[.slice A l.length c, .bool own] 26 (0, 0)))
  have R := Aside0.mk (h.alloc (.cells #[.slice A l.length c, .bool own] 26 (0, 0)))
  have HQ := Aside0.mk hr
  clear h hr
  go_enter Tryz.func10, Tryz.ntmps10
  go_upto_region 1 with (fail)
  generalize W.alloc (.cells #[.slice A l.length c, .bool own] 26 (0, 0)) = w1 at *
  (try clear hX0 hX1 fX0 fX1); have hX0 := (blk_cell X.out 0).trans rfl; have hX1 := (blk_cell X.out 1).trans rfl; have fX0 := blk_frozen X.out 0; have fX1 := blk_frozen X.out 1
  go_wp2_with (go_at_call 75; (with_reducible refine (split_one own R.out HQ.out).mono ?_); rintro e w2 ⟨rfl, hb⟩; have nB := Aside0.mk (below_step HB.out hb); clear X HB R hb hX0 hX1 fX0 fX1; have HB := nB; clear nB)
  go_ret2
  exact ⟨rfl, HB.out⟩
set_option maxRecDepth 100000 in
set_option maxHeartbeats 4000000 in
theorem implCountEvenSplits_any {W : World} {v : Value} {l : List Int} (own : Bool) {x : Int} {ok : Bool} (h : Rd W v l) (hr : cntR l 0 = (x, ok)) : Calls Tryz.prog 12 #[.agg #[v, .bool own]] W fun e W' => e = .returned (.tuple #[.int .i64 x, .bool ok]) ∧ Below W.heap.size W W' := by
  have hu := Tryz.underlying26
  obtain ⟨A, c, rfl⟩ := h.slice
  have HB := Aside0.mk (below_alloc (Below.refl W.heap.size W) (.cells #[.slice A l.length c, .bool own] 26 (0, 0)))
  have X := Aside0.mk (blk_new W (.cells #[.slice A l.length c, .bool own] 26 (0, 0)))
  have R := Aside0.mk (h.alloc (.cells #[.slice A l.length c, .bool own] 26 (0, 0)))
  have HQ := Aside0.mk hr
  clear h hr
  go_enter Tryz.func12, Tryz.ntmps12
  go_upto_region 1 with (fail)
  generalize W.alloc (.cells #[.slice A l.length c, .bool own] 26 (0, 0)) = w1 at *
  (try clear hX0 hX1 fX0 fX1); have hX0 := (blk_cell X.out 0).trans rfl; have hX1 := (blk_cell X.out 1).trans rfl; have fX0 := blk_frozen X.out 0; have fX1 := blk_frozen X.out 1
  go_wp2_with (go_at_call 78; (with_reducible refine (count_zero own R.out HQ.out).mono ?_); rintro e w2 ⟨rfl, hb⟩; have nB := Aside0.mk (below_step HB.out hb); clear X HB R hb hX0 hX1 fX0 fX1; have HB := nB; clear nB)
  go_ret2
  exact ⟨rfl, HB.out⟩
set_option maxRecDepth 100000 in
set_option maxHeartbeats 4000000 in
theorem implCountEvenOdd_any {W : World} {v : Value} {l : List Int} (own : Bool) {x : Int} {ok : Bool} (h : Rd W v l) (hr : cntR l 1 = (x, ok)) : Calls Tryz.prog 14 #[.agg #[v, .bool own]] W fun e W' => e = .returned (.tuple #[.int .i64 x, .bool ok]) ∧ Below W.heap.size W W' := by
  have hu := Tryz.underlying26
  obtain ⟨A, c, rfl⟩ := h.slice
  have HB := Aside0.mk (below_alloc (Below.refl W.heap.size W) (.cells #[.slice A l.length c, .bool own] 26 (0, 0)))
  have X := Aside0.mk (blk_new W (.cells #[.slice A l.length c, .bool own] 26 (0, 0)))
  have R := Aside0.mk (h.alloc (.cells #[.slice A l.length c, .bool own] 26 (0, 0)))
  have HQ := Aside0.mk hr
  clear h hr
  go_enter Tryz.func14, Tryz.ntmps14
  go_upto_region 1 with (fail)
  generalize W.alloc (.cells #[.slice A l.length c, .bool own] 26 (0, 0)) = w1 at *
  (try clear hX0 hX1 fX0 fX1); have hX0 := (blk_cell X.out 0).trans rfl; have hX1 := (blk_cell X.out 1).trans rfl; have fX0 := blk_frozen X.out 0; have fX1 := blk_frozen X.out 1
  go_wp2_with (go_at_call 78; (with_reducible refine (count_one own R.out HQ.out).mono ?_); rintro e w2 ⟨rfl, hb⟩; have nB := Aside0.mk (below_step HB.out hb); clear X HB R hb hX0 hX1 fX0 fX1; have HB := nB; clear nB)
  go_ret2
  exact ⟨rfl, HB.out⟩
set_option maxRecDepth 100000 in
set_option maxHeartbeats 4000000 in
theorem paSplit_any {W : World} {v : Value} {l : List Int} (own b : Bool) (h : Rd W v l) (hG : GoodG l) : Calls Tryz.prog 77 #[.agg #[v, .bool own], .bool b] W fun e W' => e = .returned (.tuple #[.int .i64 ((2 ^ (svP l (restB b)).quiet.length : Nat) : Int), .int .i64 ((spP l (restB b) : Nat) : Int)]) ∧ Below W.heap.size W W' := by
  have hC : ∀ w3, Below W.heap.size W w3 → Calls Tryz.prog 125 #[.agg #[v, .bool own], .bool b] w3 fun e w' => ∃ u, e = .returned (.tuple #[u, .int .i64 ((dueP l (restB b) l.length : Nat) : Int)]) ∧ Rd w' u (ints (rowsP l (restB b))) ∧ Below w3.heap.size w3 w' := fun w3 hb => by
    obtain ⟨A', c', rfl, hc', hC', _⟩ := h.below hb
    obtain ⟨K, hK⟩ := spec_paEquations.ev l own b hG
    exact (spec_paEquations.calls K A' c' l own b _ _ w3 hC' hc' (hK K (Nat.le_refl _))).mono fun _ _ ⟨u, he, h1, h2⟩ => ⟨u, he, Rd.of h1 (by rw [ints_length, rowsP_length]; have := hG.top; omega), h2⟩
  have hu := Tryz.underlying26
  obtain ⟨A, c, rfl⟩ := h.slice
  have HB := Aside0.mk (below_alloc (Below.refl W.heap.size W) (.cells #[.slice A l.length c, .bool own] 26 (0, 0)))
  have X := Aside0.mk (blk_new W (.cells #[.slice A l.length c, .bool own] 26 (0, 0)))
  have R := Aside0.mk (h.alloc (.cells #[.slice A l.length c, .bool own] 26 (0, 0)))
  have HC := Aside0.mk hC
  have HO := Aside0.mk (pa_P hG (restB b))
  have hql := (svP_quiet hG (restB b)).2.1
  have htop := hG.top
  have hql2 : (svP l (restB b)).quiet.length ≤ 16 := by omega
  generalize (svP l (restB b)).quiet.length = q at *
  have hq16 : (2 : Nat) ^ q ≤ 2 ^ 16 := Nat.pow_le_pow_right (by decide) hql2
  have hwq : wrap64 (2 ^ q) = ((2 ^ q : Nat) : Int) := by
    rw [← pow_cast]
    generalize 2 ^ q = z at hq16 ⊢
    exact wrap_id (by omega) (by omega)
  generalize (2 : Nat) ^ q = zq at hq16 hwq ⊢
  have HWQ := Aside0.mk hwq
  have HL := Aside0.mk (rowsP_length l (restB b))
  clear hC hq16 hwq h
  go_enter Tryz.func77, Tryz.ntmps77
  go_upto_region 1 with (fail)
  generalize W.alloc (.cells #[.slice A l.length c, .bool own] 26 (0, 0)) = w1 at *
  (try clear hX0 hX1 fX0 fX1); have hX0 := (blk_cell X.out 0).trans rfl; have hX1 := (blk_cell X.out 1).trans rfl; have fX0 := blk_frozen X.out 0; have fX1 := blk_frozen X.out 1
  go_wp2_with (first
    | (go_at_call 125; (with_reducible refine (HC.out _ HB.out).mono ?_); rintro e w2 ⟨u, rfl, hr, hb⟩; obtain ⟨A5, c5, h5⟩ := hr.slice; rw [ints_length, HL.out] at h5; subst h5; have R5 := Aside0.mk hr; clear hr; have nX := Aside0.mk (blk_below X.out hb); have nR := Aside0.mk (R.out.below hb); have nB := Aside0.mk (below_step HB.out hb); clear X HB R hb hX0 hX1 fX0 fX1; have X := nX; have R := nR; have HB := nB; clear nX nR nB; (try clear hX0 hX1 fX0 fX1); have hX0 := (blk_cell X.out 0).trans rfl; have hX1 := (blk_cell X.out 1).trans rfl; have fX0 := blk_frozen X.out 0; have fX1 := blk_frozen X.out 1)
    | (go_at_call 126; (with_reducible refine (paSolutions_any R5.out HO.out).mono ?_); rintro e w3 ⟨rfl, hb⟩; have nB := Aside0.mk (below_step HB.out hb); clear X HB R hb hX0 hX1 fX0 fX1; have HB := nB; clear nB))
  go_ret2
  exact ⟨by first | (rw [HWQ.out]; rfl) | rfl, HB.out⟩
theorem paSplit_even {W : World} {v : Value} {l : List Int} (own : Bool) (h : Rd W v l) (hG : GoodG l) : Calls Tryz.prog 77 #[.agg #[v, .bool own], .bool false] W fun e W' => e = .returned (.tuple #[.int .i64 ((2 ^ (svP l 0).quiet.length : Nat) : Int), .int .i64 ((spP l 0 : Nat) : Int)]) ∧ Below W.heap.size W W' := paSplit_any own false h hG
theorem paSplit_odd {W : World} {v : Value} {l : List Int} (own : Bool) (h : Rd W v l) (hG : GoodG l) : Calls Tryz.prog 77 #[.agg #[v, .bool own], .bool true] W fun e W' => e = .returned (.tuple #[.int .i64 ((2 ^ (svP l 1).quiet.length : Nat) : Int), .int .i64 ((spP l 1 : Nat) : Int)]) ∧ Below W.heap.size W W' := paSplit_any own true h hG
set_option maxRecDepth 100000 in
set_option maxHeartbeats 4000000 in
theorem specEvenSplit_any {W : World} {v : Value} {l : List Int} (own : Bool) {x : Int} {ok : Bool} (h : Rd W v l) (hr : splitR l 0 = (x, ok)) : Calls Tryz.prog 9 #[.agg #[v, .bool own]] W fun e W' => e = .returned (.tuple #[.int .i64 x, .bool ok]) ∧ Below W.heap.size W W' := by
  have hu := Tryz.underlying26
  obtain ⟨A, c, rfl⟩ := h.slice
  have HB := Aside0.mk (below_alloc (Below.refl W.heap.size W) (.cells #[.slice A l.length c, .bool own] 26 (0, 0)))
  have X := Aside0.mk (blk_new W (.cells #[.slice A l.length c, .bool own] 26 (0, 0)))
  have R := Aside0.mk (h.alloc (.cells #[.slice A l.length c, .bool own] 26 (0, 0)))
  clear h
  go_enter Tryz.func9, Tryz.ntmps9
  go_upto_region 1 with (fail)
  generalize W.alloc (.cells #[.slice A l.length c, .bool own] 26 (0, 0)) = w1 at *
  (try clear hX0 hX1 fX0 fX1); have hX0 := (blk_cell X.out 0).trans rfl; have hX1 := (blk_cell X.out 1).trans rfl; have fX0 := blk_frozen X.out 0; have fX1 := blk_frozen X.out 1
  cases hg : good l
  · rw [split_bad 0 hg] at hr
    injection hr with e1 e2
    subst e1 e2
    have HG := Aside0.mk hg
    clear hg
    go_wp2_with (go_at_call 76; (with_reducible refine (grGood_s own R.out HG.out).mono ?_); rintro e w2 ⟨rfl, hb⟩; have nB := Aside0.mk (below_step HB.out hb); clear X HB R hb hX0 hX1 fX0 fX1; have HB := nB; clear nB)
    go_ret2
    exact ⟨rfl, HB.out⟩
  · have hG := (good_iff l).1 hg
    rw [split_good 0 hg] at hr
    injection hr with e1 e2
    subst e2
    have HX := Aside0.mk e1
    have HG := Aside0.mk hg
    have HGG := Aside0.mk hG
    clear hg hG e1
    go_wp2_with (first
      | (go_at_call 76; (with_reducible refine (grGood_s own R.out HG.out).mono ?_); rintro e w2 ⟨rfl, hb⟩; have nX := Aside0.mk (blk_below X.out hb); have nR := Aside0.mk (R.out.below hb); have nB := Aside0.mk (below_step HB.out hb); clear X HB R hb hX0 hX1 fX0 fX1; have X := nX; have R := nR; have HB := nB; clear nX nR nB; (try clear hX0 hX1 fX0 fX1); have hX0 := (blk_cell X.out 0).trans rfl; have hX1 := (blk_cell X.out 1).trans rfl; have fX0 := blk_frozen X.out 0; have fX1 := blk_frozen X.out 1)
      | (go_at_call 77; (with_reducible refine (paSplit_even own R.out HGG.out).mono ?_); rintro e w3 ⟨rfl, hb⟩; rw [HX.out]; have nB := Aside0.mk (below_step HB.out hb); clear X HB R hb hX0 hX1 fX0 fX1; have HB := nB; clear nB))
    go_ret2
    exact ⟨rfl, HB.out⟩
set_option maxRecDepth 100000 in
set_option maxHeartbeats 4000000 in
theorem specEvenOddSplit_any {W : World} {v : Value} {l : List Int} (own : Bool) {x : Int} {ok : Bool} (h : Rd W v l) (hr : splitR l 1 = (x, ok)) : Calls Tryz.prog 11 #[.agg #[v, .bool own]] W fun e W' => e = .returned (.tuple #[.int .i64 x, .bool ok]) ∧ Below W.heap.size W W' := by
  have hu := Tryz.underlying26
  obtain ⟨A, c, rfl⟩ := h.slice
  have HB := Aside0.mk (below_alloc (Below.refl W.heap.size W) (.cells #[.slice A l.length c, .bool own] 26 (0, 0)))
  have X := Aside0.mk (blk_new W (.cells #[.slice A l.length c, .bool own] 26 (0, 0)))
  have R := Aside0.mk (h.alloc (.cells #[.slice A l.length c, .bool own] 26 (0, 0)))
  clear h
  go_enter Tryz.func11, Tryz.ntmps11
  go_upto_region 1 with (fail)
  generalize W.alloc (.cells #[.slice A l.length c, .bool own] 26 (0, 0)) = w1 at *
  (try clear hX0 hX1 fX0 fX1); have hX0 := (blk_cell X.out 0).trans rfl; have hX1 := (blk_cell X.out 1).trans rfl; have fX0 := blk_frozen X.out 0; have fX1 := blk_frozen X.out 1
  cases hg : good l
  · rw [split_bad 1 hg] at hr
    injection hr with e1 e2
    subst e1 e2
    have HG := Aside0.mk hg
    clear hg
    go_wp2_with (go_at_call 76; (with_reducible refine (grGood_s own R.out HG.out).mono ?_); rintro e w2 ⟨rfl, hb⟩; have nB := Aside0.mk (below_step HB.out hb); clear X HB R hb hX0 hX1 fX0 fX1; have HB := nB; clear nB)
    go_ret2
    exact ⟨rfl, HB.out⟩
  · have hG := (good_iff l).1 hg
    rw [split_good 1 hg] at hr
    injection hr with e1 e2
    subst e2
    have HX := Aside0.mk e1
    have HG := Aside0.mk hg
    have HGG := Aside0.mk hG
    clear hg hG e1
    go_wp2_with (first
      | (go_at_call 76; (with_reducible refine (grGood_s own R.out HG.out).mono ?_); rintro e w2 ⟨rfl, hb⟩; have nX := Aside0.mk (blk_below X.out hb); have nR := Aside0.mk (R.out.below hb); have nB := Aside0.mk (below_step HB.out hb); clear X HB R hb hX0 hX1 fX0 fX1; have X := nX; have R := nR; have HB := nB; clear nX nR nB; (try clear hX0 hX1 fX0 fX1); have hX0 := (blk_cell X.out 0).trans rfl; have hX1 := (blk_cell X.out 1).trans rfl; have fX0 := blk_frozen X.out 0; have fX1 := blk_frozen X.out 1)
      | (go_at_call 77; (with_reducible refine (paSplit_odd own R.out HGG.out).mono ?_); rintro e w3 ⟨rfl, hb⟩; rw [HX.out]; have nB := Aside0.mk (below_step HB.out hb); clear X HB R hb hX0 hX1 fX0 fX1; have HB := nB; clear nB))
    go_ret2
    exact ⟨rfl, HB.out⟩
set_option maxRecDepth 100000 in
set_option maxHeartbeats 4000000 in
theorem specCountEvenSplits_any {W : World} {v : Value} {l : List Int} (own : Bool) {x : Int} {ok : Bool} (h : Rd W v l) (hr : cntR l 0 = (x, ok)) : Calls Tryz.prog 13 #[.agg #[v, .bool own]] W fun e W' => e = .returned (.tuple #[.int .i64 x, .bool ok]) ∧ Below W.heap.size W W' := by
  have hu := Tryz.underlying26
  obtain ⟨A, c, rfl⟩ := h.slice
  have HB := Aside0.mk (below_alloc (Below.refl W.heap.size W) (.cells #[.slice A l.length c, .bool own] 26 (0, 0)))
  have X := Aside0.mk (blk_new W (.cells #[.slice A l.length c, .bool own] 26 (0, 0)))
  have R := Aside0.mk (h.alloc (.cells #[.slice A l.length c, .bool own] 26 (0, 0)))
  clear h
  go_enter Tryz.func13, Tryz.ntmps13
  go_upto_region 1 with (fail)
  generalize W.alloc (.cells #[.slice A l.length c, .bool own] 26 (0, 0)) = w1 at *
  (try clear hX0 hX1 fX0 fX1); have hX0 := (blk_cell X.out 0).trans rfl; have hX1 := (blk_cell X.out 1).trans rfl; have fX0 := blk_frozen X.out 0; have fX1 := blk_frozen X.out 1
  cases hg : good l
  · rw [cnt_bad 0 hg] at hr
    injection hr with e1 e2
    subst e1 e2
    have HG := Aside0.mk hg
    clear hg
    go_wp2_with (go_at_call 76; (with_reducible refine (grGood_s own R.out HG.out).mono ?_); rintro e w2 ⟨rfl, hb⟩; have nB := Aside0.mk (below_step HB.out hb); clear X HB R hb hX0 hX1 fX0 fX1; have HB := nB; clear nB)
    go_ret2
    exact ⟨rfl, HB.out⟩
  · have hG := (good_iff l).1 hg
    rw [cnt_good 0 hg] at hr
    injection hr with e1 e2
    subst e2
    have HX := Aside0.mk e1
    have HG := Aside0.mk hg
    have HGG := Aside0.mk hG
    clear hg hG e1
    go_wp2_with (first
      | (go_at_call 76; (with_reducible refine (grGood_s own R.out HG.out).mono ?_); rintro e w2 ⟨rfl, hb⟩; have nX := Aside0.mk (blk_below X.out hb); have nR := Aside0.mk (R.out.below hb); have nB := Aside0.mk (below_step HB.out hb); clear X HB R hb hX0 hX1 fX0 fX1; have X := nX; have R := nR; have HB := nB; clear nX nR nB; (try clear hX0 hX1 fX0 fX1); have hX0 := (blk_cell X.out 0).trans rfl; have hX1 := (blk_cell X.out 1).trans rfl; have fX0 := blk_frozen X.out 0; have fX1 := blk_frozen X.out 1)
      | (go_at_call 77; (with_reducible refine (paSplit_even own R.out HGG.out).mono ?_); rintro e w3 ⟨rfl, hb⟩; rw [HX.out]; have nB := Aside0.mk (below_step HB.out hb); clear X HB R hb hX0 hX1 fX0 fX1; have HB := nB; clear nB))
    go_ret2
    exact ⟨rfl, HB.out⟩
set_option maxRecDepth 100000 in
set_option maxHeartbeats 4000000 in
theorem specCountEvenOdd_any {W : World} {v : Value} {l : List Int} (own : Bool) {x : Int} {ok : Bool} (h : Rd W v l) (hr : cntR l 1 = (x, ok)) : Calls Tryz.prog 15 #[.agg #[v, .bool own]] W fun e W' => e = .returned (.tuple #[.int .i64 x, .bool ok]) ∧ Below W.heap.size W W' := by
  have hu := Tryz.underlying26
  obtain ⟨A, c, rfl⟩ := h.slice
  have HB := Aside0.mk (below_alloc (Below.refl W.heap.size W) (.cells #[.slice A l.length c, .bool own] 26 (0, 0)))
  have X := Aside0.mk (blk_new W (.cells #[.slice A l.length c, .bool own] 26 (0, 0)))
  have R := Aside0.mk (h.alloc (.cells #[.slice A l.length c, .bool own] 26 (0, 0)))
  clear h
  go_enter Tryz.func15, Tryz.ntmps15
  go_upto_region 1 with (fail)
  generalize W.alloc (.cells #[.slice A l.length c, .bool own] 26 (0, 0)) = w1 at *
  (try clear hX0 hX1 fX0 fX1); have hX0 := (blk_cell X.out 0).trans rfl; have hX1 := (blk_cell X.out 1).trans rfl; have fX0 := blk_frozen X.out 0; have fX1 := blk_frozen X.out 1
  cases hg : good l
  · rw [cnt_bad 1 hg] at hr
    injection hr with e1 e2
    subst e1 e2
    have HG := Aside0.mk hg
    clear hg
    go_wp2_with (go_at_call 76; (with_reducible refine (grGood_s own R.out HG.out).mono ?_); rintro e w2 ⟨rfl, hb⟩; have nB := Aside0.mk (below_step HB.out hb); clear X HB R hb hX0 hX1 fX0 fX1; have HB := nB; clear nB)
    go_ret2
    exact ⟨rfl, HB.out⟩
  · have hG := (good_iff l).1 hg
    rw [cnt_good 1 hg] at hr
    injection hr with e1 e2
    subst e2
    have HX := Aside0.mk e1
    have HG := Aside0.mk hg
    have HGG := Aside0.mk hG
    clear hg hG e1
    go_wp2_with (first
      | (go_at_call 76; (with_reducible refine (grGood_s own R.out HG.out).mono ?_); rintro e w2 ⟨rfl, hb⟩; have nX := Aside0.mk (blk_below X.out hb); have nR := Aside0.mk (R.out.below hb); have nB := Aside0.mk (below_step HB.out hb); clear X HB R hb hX0 hX1 fX0 fX1; have X := nX; have R := nR; have HB := nB; clear nX nR nB; (try clear hX0 hX1 fX0 fX1); have hX0 := (blk_cell X.out 0).trans rfl; have hX1 := (blk_cell X.out 1).trans rfl; have fX0 := blk_frozen X.out 0; have fX1 := blk_frozen X.out 1)
      | (go_at_call 77; (with_reducible refine (paSplit_odd own R.out HGG.out).mono ?_); rintro e w3 ⟨rfl, hb⟩; rw [HX.out]; have nB := Aside0.mk (below_step HB.out hb); clear X HB R hb hX0 hX1 fX0 fX1; have HB := nB; clear nB))
    go_ret2
    exact ⟨rfl, HB.out⟩
/-! All even splits. -/
theorem paAll_q {W : World} {v : Value} {l : List Int} (own : Bool) (h : Rd W v l) (hG : GoodG l) {s : Nat} (hs : s < 2 ^ l.length) {b : Bool} (hb : evenP l s 0 = b) : Calls Tryz.prog 85 #[.agg #[v, .bool own], .int .i64 (s : Int), .int .i64 0] W fun e W' => e = .returned (.bool b) ∧ Below W.heap.size W W' := by
  obtain ⟨A, c, rfl, hc, hC, hl⟩ := h
  obtain ⟨K, hK⟩ := ev_get (spec_paAll.ev l own hG s 0 hs)
  exact spec_paAll.calls K A c l own (s : Int) 0 b W hC hc ((hK K (Nat.le_refl _)).trans (by rw [hb]))
set_option maxRecDepth 100000 in
set_option maxHeartbeats 4000000 in
theorem implEvenSplits_any {W : World} {v : Value} {l : List Int} (own : Bool) {r : List Int} {ok : Bool} (h : Rd W v l) (hr : evensR l = (r, ok)) : Calls Tryz.prog 20 #[.agg #[v, .bool own]] W fun e W' => ∃ u, e = .returned (.tuple #[u, .bool ok]) ∧ Rd W' u r ∧ Below W.heap.size W W' := by
  have hu := Tryz.underlying26
  have hu2 := Tryz.underlying73
  obtain ⟨A, c, rfl⟩ := h.slice
  have HB := Aside0.mk (below_alloc (Below.refl W.heap.size W) (.cells #[.slice A l.length c, .bool own] 26 (0, 0)))
  have X := Aside0.mk (blk_new W (.cells #[.slice A l.length c, .bool own] 26 (0, 0)))
  have R := Aside0.mk (h.alloc (.cells #[.slice A l.length c, .bool own] 26 (0, 0)))
  have hnil : ∀ w, Rd w (.slice none 0 0) [] := fun w => Rd.of (Kd.R_nil (Kd.int .i64) 3 w 0 (fun _ => True)) (by simp)
  clear h
  go_enter Tryz.func20, Tryz.ntmps20
  go_upto_region 1 with (fail)
  generalize W.alloc (.cells #[.slice A l.length c, .bool own] 26 (0, 0)) = w1 at *
  (try clear hX0 hX1 fX0 fX1); have hX0 := (blk_cell X.out 0).trans rfl; have hX1 := (blk_cell X.out 1).trans rfl; have fX0 := blk_frozen X.out 0; have fX1 := blk_frozen X.out 1
  cases hg : good l
  · rw [evens_bad hg] at hr
    injection hr with e1 e2
    subst e1 e2
    have Q1 := Aside0.mk (split_bad 0 hg)
    have Q2 := Aside0.mk (cnt_bad 0 hg)
    clear hg
    go_wp2_with (first
      | (go_at_call 75; (with_reducible refine (split_zero own R.out Q1.out).mono ?_); rintro e w2 ⟨rfl, hb⟩; have nX := Aside0.mk (blk_below X.out hb); have nR := Aside0.mk (R.out.below hb); have nB := Aside0.mk (below_step HB.out hb); clear X HB R hb hX0 hX1 fX0 fX1; have X := nX; have R := nR; have HB := nB; clear nX nR nB; (try clear hX0 hX1 fX0 fX1); have hX0 := (blk_cell X.out 0).trans rfl; have hX1 := (blk_cell X.out 1).trans rfl; have fX0 := blk_frozen X.out 0; have fX1 := blk_frozen X.out 1)
      | (go_at_call 78; (with_reducible refine (count_zero own R.out Q2.out).mono ?_); rintro e w3 ⟨rfl, hb⟩; have nX := Aside0.mk (blk_below X.out hb); have nR := Aside0.mk (R.out.below hb); have nB := Aside0.mk (below_step HB.out hb); clear X HB R hb hX0 hX1 fX0 fX1; have X := nX; have R := nR; have HB := nB; clear nX nR nB; (try clear hX0 hX1 fX0 fX1); have hX0 := (blk_cell X.out 0).trans rfl; have hX1 := (blk_cell X.out 1).trans rfl; have fX0 := blk_frozen X.out 0; have fX1 := blk_frozen X.out 1))
    go_ret2
    exact ⟨_, rfl, hnil _, HB.out⟩
  · have hG := (good_iff l).1 hg
    have Q1 := Aside0.mk (split_good 0 hg)
    have Q2 := Aside0.mk (cnt_good 0 hg)
    have HGG := Aside0.mk hG
    obtain ⟨hqb, hql, hqB⟩ := svP_quiet hG 0
    have htop := hG.top
    have h16 : (2 : Nat) ^ l.length ≤ 2 ^ 16 := Nat.pow_le_pow_right (by decide) htop
    have HSUM := Aside0.mk (sols_sums hG)
    have HLEN := Aside0.mk (sols_len hG)
    have HQB : Aside0 (∀ b ∈ (svP l 0).quiet, b < 65536) := ⟨fun b hb => by have := hqb b hb; omega⟩
    have HQ := Aside0.mk hqB
    have hql2 : (svP l 0).quiet.length ≤ 16 := by omega
    have HP : Aside0 (spP l 0 < 65536) := ⟨by have := (spP_least hG 0).1; omega⟩
    by_cases h300 : 2 ^ (svP l 0).quiet.length ≤ 300
    · rw [evens_good hg h300] at hr
      injection hr with e1 e2
      subst e1 e2
      have hg3 : ¬ (300 < ((2 ^ (svP l 0).quiet.length : Nat) : Int)) := by omega
      have HG3 := Aside0.mk hg3
      obtain ⟨zq, hzq⟩ : ∃ z, (2 : Nat) ^ (svP l 0).quiet.length = z := ⟨_, rfl⟩
      rw [hzq] at hg3 Q2
      have HZQ := Aside0.mk (HLEN.out.trans hzq)
      have hz300 : zq ≤ 300 := by omega
      clear hg hG hqb hql hqB h16 h300 HG3 hzq
      go_upto_region 6 with (first
        | (go_at_call 75; (with_reducible refine (split_zero own R.out Q1.out).mono ?_); rintro e w2 ⟨rfl, hb⟩; have nX := Aside0.mk (blk_below X.out hb); have nR := Aside0.mk (R.out.below hb); have nB := Aside0.mk (below_step HB.out hb); clear X HB R hb hX0 hX1 fX0 fX1; have X := nX; have R := nR; have HB := nB; clear nX nR nB; (try clear hX0 hX1 fX0 fX1); have hX0 := (blk_cell X.out 0).trans rfl; have hX1 := (blk_cell X.out 1).trans rfl; have fX0 := blk_frozen X.out 0; have fX1 := blk_frozen X.out 1)
        | (go_at_call 78; (with_reducible refine (count_zero own R.out Q2.out).mono ?_); rintro e w3 ⟨rfl, hb⟩; have nX := Aside0.mk (blk_below X.out hb); have nR := Aside0.mk (R.out.below hb); have nB := Aside0.mk (below_step HB.out hb); clear X HB R hb hX0 hX1 fX0 fX1; have X := nX; have R := nR; have HB := nB; clear nX nR nB; (try clear hX0 hX1 fX0 fX1); have hX0 := (blk_cell X.out 0).trans rfl; have hX1 := (blk_cell X.out 1).trans rfl; have fX0 := blk_frozen X.out 0; have fX1 := blk_frozen X.out 1)
        | (go_at_call 82; (with_reducible refine (splits_zero own R.out HGG.out).mono ?_); rintro e w4 ⟨bs, rfl, hle, hs, hb⟩; have HS := Aside0.mk hs; have nB := Aside0.mk (below_step HB.out hb); clear X HB R hb hs hle hX0 hX1 fX0 fX1; have HB := nB; clear nB))
      have hsz := HB.out.size
      have HV := Aside0.mk (Kd.R_of_own (h1 := fun _ => rfl) (enc := Value.int .i64) (xs := []) (ok := fun _ => True) (World.ownsRow_made (base := W.heap.size) (e := 3) w4 #[] 0 hsz (Nat.zero_le _) rfl) (fun _ _ => trivial))
      have nS := Aside0.mk (HS.out.below (below_alloc (Below.refl _ _) (.cells #[] 3 (0, 0))))
      have nB := Aside0.mk (below_alloc HB.out (.cells #[] 3 (0, 0)))
      clear HS HB hsz
      have HB := nB
      clear nB
      go_upto_region 7 with (fail)
      generalize w4.alloc (.cells #[] 3 (0, 0)) = w5 at *
      obtain ⟨vp, vq, vi, hS, hP, hQ, hI⟩ := nS.out
      obtain ⟨Aq, cq, rfl⟩ := Kd.R_slice hQ
      rw [ints_length] at hS hQ
      have hS1 := (blk_cell hS 1).trans rfl
      have RQ := Aside0.mk (Rd.of hQ (by rw [ints_length]; omega))
      clear nS hS hP hQ hI
      go_wp2_with (go_at_call 83; (with_reducible refine (patterns_any RQ.out HQ.out HQB.out hql2).mono ?_); rintro e w6 ⟨A6, c6, rfl, ho, hb⟩; have HC := Aside0.mk (Own.of ho); have hsz := hb.size; have nV := Aside0.mk (Kd.R_below (Kd.R_mono (ok' := fun k => k < w5.heap.size ∨ w6.heap.size ≤ k) (Kd.R_bound HV.out) (fun k hk => Or.inl hk.2.2.1)) hb); have nB := Aside0.mk (below_step HB.out hb); clear HV HB ho hb hS1 RQ; have HV := nV; have HB := nB; clear nV nB)
      obtain ⟨o, ho⟩ : ∃ o, sums (svP l 0).quiet = o := ⟨_, rfl⟩
      have hsum := HSUM.out
      have hlen := HZQ.out
      have hsm := (sums_small HQB.out hql2 (svP l 0).quiet.length).1
      rw [List.take_length, show sumsGo [0] (svP l 0).quiet = sums (svP l 0).quiet from rfl, ho] at hsm
      rw [ho] at HC hsum ⊢
      rw [← hsum, List.length_map] at hlen
      have hol : o.length ≤ 300 := by omega
      clear hlen
      have HO := Aside0.mk hsm
      have HSUM2 := Aside0.mk hsum
      generalize spP l 0 = p at *
      clear HSUM hsum hsm ho HLEN HZQ
      obtain ⟨lo, hlo⟩ : ∃ z, w5.heap.size = z := ⟨_, rfl⟩
      rw [hlo] at HV HC hsz
      have HS := Aside0.mk (Nat.le_refl w6.heap.size)
      have h65 := HP.out
      go_loopw [10, 41] (fun v10 v41 wq => ∃ (j : Nat) (A4 : Option Addr) (c4 : Nat), j ≤ o.length ∧ v41 = .int .i64 (j : Int) ∧ v10 = .slice A4 j c4 ∧ Aside0 (Kd.R (Kd.int .i64) 3 wq W.heap.size (fun k => k < lo ∨ w6.heap.size ≤ k) (.slice A4 j c4) (ints ((o.take j).map fun x => p ^^^ x))) ∧ Aside0 (Own wq lo w6.heap.size (.slice A6 o.length c6) (ints o)) ∧ Aside0 (Below W.heap.size W wq) ∧ Aside0 (w6.heap.size ≤ wq.heap.size)) (fun _ v41 _ => o.length - (intOf v41).toNat)
      case atStart => exact ⟨0, _, _, Nat.zero_le _, rfl, rfl, HV, HC, HB, HS⟩
      case round =>
        clear HV HC HB HS
        obtain ⟨j, A4, c4, hj, rfl, rfl, HV, HC, HB, HS⟩ := hrel
        by_cases hlj : j < o.length
        · have RC := Own.rd HC.out (by rw [ints_length]; omega)
          obtain ⟨ad6, e1, hc_⟩ := RC.cell (j : Int) (by omega) (by first | omega | (rw [ints_length]; omega))
          subst e1
          clear hc_
          have hc1 := RC.cellN j (by first | omega | (rw [ints_length]; omega))
          rw [ints_get o j hlj] at hc1
          have ht1 : ((o.take (j + 1)).map fun x => p ^^^ x) = ((o.take j).map fun x => p ^^^ x) ++ [p ^^^ o[j]] := by
            rw [List.take_succ_eq_append_getElem hlj, List.map_append]
            rfl
          have hx := HO.out o[j] (List.getElem_mem hlj)
          generalize o[j] = x at *
          have xe : Go.bits .xor .i64 (p : Int) (x : Int) = ((p ^^^ x : Nat) : Int) := xor_nat p x (by omega) (by omega)
          obtain ⟨px, hpx⟩ : ∃ n, p ^^^ x = n := ⟨_, rfl⟩
          rw [hpx] at xe ht1
          have HT1 := Aside0.mk ht1
          clear RC ht1 hpx
          have hwl : ((o.take j).map fun x => p ^^^ x).length = j := by rw [List.length_map, List.length_take]; omega
          go_wp2_with ((with_reducible refine gate_builtin (b := .append) (xs := #[.tmp 45, .tmp 49]) rfl ?_); at_builtin; refine Kd.R_append (Kd.int .i64) (w0 := W) W.heap.size rfl (.tmp 45) (.tmp 49) 24 3 (.int .i64 0) 8 rfl Tryz.underlying24 info3 rfl (by decide) (by decide) (.slice A4 j c4) (ints ((o.take j).map fun x => p ^^^ x)) (px : Int) [.int .i64 (px : Int)] (fun k => k < lo ∨ w6.heap.size ≤ k) (fun _ => False) rfl (by first | (go_simp; done) | (go_simp; rfl)) ?aP (fun _ hk => hk.elim) (fun k hk => Or.inr (Nat.le_trans HS.out hk)) HV.out HB.out HB.out.size ?aL ?_; (case aP => exact rfl); (case aL => rw [ints_length, hwl]; omega); intro v7 w7 ho hb hg _; obtain ⟨A7, c7, h7⟩ := Kd.R_slice ho; rw [List.length_append, List.length_singleton, ints_length, hwl] at h7; subst h7; have nC := Aside0.mk (show Own w7 lo w6.heap.size _ (ints o) from rInt_grown2 HC.out hg (own_ne HC.out HV.out (fun k h1 h2 => by omega))); have nV := Aside0.mk ho; have nS := Aside0.mk (Nat.le_trans HS.out hg.size); have nB := Aside0.mk hb; clear HC HV HS HB ho hb hg hc1; have HC := nC; have HV := nV; have HS := nS; have HB := nB; clear nC nV nS nB)
          go_roundw
          case rel =>
            refine ⟨j + 1, A7, c7, by omega, by go_num, rfl, ⟨?_⟩, HC, HB, HS⟩
            rw [HT1.out, ints_append]
            exact HV.out
          case measure => simp [intOf]; omega
        · have ej : j = o.length := by omega
          subst ej
          rw [List.take_length, HSUM2.out] at HV
          have hln : (solsP l).length = o.length := by rw [← HSUM2.out, List.length_map]
          have hup : (solsP l).Pairwise (fun x y => x < y) := (range_up _).filter _
          have hsf : slices_Sort_int_int.f (ints (solsP l)) = some (ints (solsP l)) := by
            unfold slices_Sort_int_int.f
            rw [if_pos (by rw [ints_length]; omega), ints_sorted hup]
          have HSF := Aside0.mk hsf
          have HLN := Aside0.mk (show (ints (solsP l)).length ≤ 1048576 by rw [ints_length]; omega)
          clear hsf hup hln hg3 hz300 h65 hj hlj hsz hlo hol
          go_wp2_with (go_at_call 84; (refine (slices_Sort_int_int.calls (fun k => k < lo ∨ w6.heap.size ≤ k) _ (ints (solsP l)) _ W wr HB.out HV.out HSF.out).mono ?_); rintro e w8 ⟨rfl, ho, hb, _⟩; have nV := Aside0.mk ho; have nB := Aside0.mk hb; clear HV HB HC ho hb; have HV := nV; have HB := nB; clear nV nB)
          go_ret2
          exact ⟨_, rfl, Rd.of HV.out HLN.out, HB.out⟩
    · rw [evens_many h300] at hr
      injection hr with e1 e2
      subst e1 e2
      have hg3 : 300 < ((2 ^ (svP l 0).quiet.length : Nat) : Int) := by omega
      obtain ⟨zq, hzq⟩ : ∃ z, (2 : Nat) ^ (svP l 0).quiet.length = z := ⟨_, rfl⟩
      rw [hzq] at hg3 Q2
      clear hg hG hqb hql hqB h16 h300 hzq
      go_wp2_with (first
        | (go_at_call 75; (with_reducible refine (split_zero own R.out Q1.out).mono ?_); rintro e w2 ⟨rfl, hb⟩; have nX := Aside0.mk (blk_below X.out hb); have nR := Aside0.mk (R.out.below hb); have nB := Aside0.mk (below_step HB.out hb); clear X HB R hb hX0 hX1 fX0 fX1; have X := nX; have R := nR; have HB := nB; clear nX nR nB; (try clear hX0 hX1 fX0 fX1); have hX0 := (blk_cell X.out 0).trans rfl; have hX1 := (blk_cell X.out 1).trans rfl; have fX0 := blk_frozen X.out 0; have fX1 := blk_frozen X.out 1)
        | (go_at_call 78; (with_reducible refine (count_zero own R.out Q2.out).mono ?_); rintro e w3 ⟨rfl, hb⟩; have nX := Aside0.mk (blk_below X.out hb); have nR := Aside0.mk (R.out.below hb); have nB := Aside0.mk (below_step HB.out hb); clear X HB R hb hX0 hX1 fX0 fX1; have X := nX; have R := nR; have HB := nB; clear nX nR nB; (try clear hX0 hX1 fX0 fX1); have hX0 := (blk_cell X.out 0).trans rfl; have hX1 := (blk_cell X.out 1).trans rfl; have fX0 := blk_frozen X.out 0; have fX1 := blk_frozen X.out 1))
      go_ret2
      exact ⟨_, rfl, hnil _, HB.out⟩
set_option maxRecDepth 100000 in
set_option maxHeartbeats 4000000 in
theorem specEvenSplits_any {W : World} {v : Value} {l : List Int} (own : Bool) {r : List Int} {ok : Bool} (h : Rd W v l) (hr : evensR l = (r, ok)) : Calls Tryz.prog 21 #[.agg #[v, .bool own]] W fun e W' => ∃ u, e = .returned (.tuple #[u, .bool ok]) ∧ Rd W' u r ∧ Below W.heap.size W W' := by
  have hu := Tryz.underlying26
  have HR := Aside0.mk h
  obtain ⟨A, c, rfl⟩ := h.slice
  have HB := Aside0.mk (below_alloc (Below.refl W.heap.size W) (.cells #[.slice A l.length c, .bool own] 26 (0, 0)))
  have X := Aside0.mk (blk_new W (.cells #[.slice A l.length c, .bool own] 26 (0, 0)))
  have R := Aside0.mk (h.alloc (.cells #[.slice A l.length c, .bool own] 26 (0, 0)))
  have hnil : ∀ w, Rd w (.slice none 0 0) [] := fun w => Rd.of (Kd.R_nil (Kd.int .i64) 3 w 0 (fun _ => True)) (by simp)
  clear h
  go_enter Tryz.func21, Tryz.ntmps21
  go_upto_region 1 with (fail)
  generalize W.alloc (.cells #[.slice A l.length c, .bool own] 26 (0, 0)) = w1 at *
  (try clear hX0 hX1 fX0 fX1); have hX0 := (blk_cell X.out 0).trans rfl; have hX1 := (blk_cell X.out 1).trans rfl; have fX0 := blk_frozen X.out 0; have fX1 := blk_frozen X.out 1
  cases hg : good l
  · rw [evens_bad hg] at hr
    injection hr with e1 e2
    subst e1 e2
    have HG := Aside0.mk hg
    clear hg
    go_wp2_with (go_at_call 76; (with_reducible refine (grGood_s own R.out HG.out).mono ?_); rintro e w2 ⟨rfl, hb⟩; have nB := Aside0.mk (below_step HB.out hb); clear X HB R hb hX0 hX1 fX0 fX1; have HB := nB; clear nB)
    go_ret2
    exact ⟨_, rfl, hnil _, HB.out⟩
  · have hG := (good_iff l).1 hg
    have HG := Aside0.mk hg
    have HGG := Aside0.mk hG
    have htop := hG.top
    by_cases h300 : 2 ^ (svP l 0).quiet.length ≤ 300
    · rw [evens_good hg h300] at hr
      injection hr with e1 e2
      subst e1 e2
      have hg3 : ¬ (300 < ((2 ^ (svP l 0).quiet.length : Nat) : Int)) := by omega
      obtain ⟨zq, hzq⟩ : ∃ z, (2 : Nat) ^ (svP l 0).quiet.length = z := ⟨_, rfl⟩
      rw [hzq] at hg3
      have HZQ := Aside0.mk hzq
      have hz16 : (2 : Nat) ^ l.length ≤ 2 ^ 16 := Nat.pow_le_pow_right (by decide) htop
      have hz1 := Nat.two_pow_pos l.length
      have hwz : wrap64 (2 ^ l.length) = ((2 ^ l.length : Nat) : Int) := by
        rw [← pow_cast]
        generalize 2 ^ l.length = z at hz16 ⊢
        exact wrap_id (by omega) (by omega)
      have HWZ := Aside0.mk hwz
      have HAN := Aside0.mk (fun (s : Nat) (hs : s < 2 ^ l.length) => andnot_others hG hs)
      obtain ⟨y, hy⟩ : ∃ y : Nat, 2 ^ l.length - 1 = y := ⟨_, rfl⟩
      rw [hy] at HAN
      clear hwz hg hG h300 hzq
      obtain ⟨z, hzz⟩ : ∃ z, (2 : Nat) ^ l.length = z := ⟨_, rfl⟩
      have HZZ := Aside0.mk hzz
      rw [hzz] at hz16 hz1 hy HAN HWZ
      clear hzz
      have hyz : z = y + 1 := by omega
      have hz65 : z ≤ 65536 := by omega
      clear hz16
      have hwy : wrap64 ((z : Int) - 1) = (y : Int) := by rw [wrap_id (by omega) (by omega)]; omega
      have hwz := HWZ.out
      go_upto_region 8 with (first
        | (go_at_call 76; (with_reducible refine (grGood_s own R.out HG.out).mono ?_); rintro e w2 ⟨rfl, hb⟩; have nX := Aside0.mk (blk_below X.out hb); have nR := Aside0.mk (R.out.below hb); have nB := Aside0.mk (below_step HB.out hb); clear X HB R hb hX0 hX1 fX0 fX1; have X := nX; have R := nR; have HB := nB; clear nX nR nB; (try clear hX0 hX1 fX0 fX1); have hX0 := (blk_cell X.out 0).trans rfl; have hX1 := (blk_cell X.out 1).trans rfl; have fX0 := blk_frozen X.out 0; have fX1 := blk_frozen X.out 1)
        | (go_at_call 77; (with_reducible refine (paSplit_even own R.out HGG.out).mono ?_); rintro e w3 ⟨rfl, hb⟩; rw [HZQ.out]; have nX := Aside0.mk (blk_below X.out hb); have nR := Aside0.mk (R.out.below hb); have nB := Aside0.mk (below_step HB.out hb); clear X HB R hb hX0 hX1 fX0 fX1; have X := nX; have R := nR; have HB := nB; clear nX nR nB; (try clear hX0 hX1 fX0 fX1); have hX0 := (blk_cell X.out 0).trans rfl; have hX1 := (blk_cell X.out 1).trans rfl; have fX0 := blk_frozen X.out 0; have fX1 := blk_frozen X.out 1))
      clear hwz hwy HWZ hg3 R hy hz1
      have HV := Aside0.mk (Kd.R_nil (Kd.int .i64) 3 w3 (W.heap.size + 1) (fun _ => True))
      go_wp2
      go_loopw [7, 8] (fun v7 v8 wr => ∃ s : Nat, s ≤ z ∧ v8 = .int .i64 (s : Int) ∧ Aside0 (Kd.R (Kd.int .i64) 3 wr (W.heap.size + 1) (fun _ => True) v7 (ints ((List.range s).filter fun x => evenP l x 0 && evenP l (othersP l x) 0))) ∧ Aside0 (wr.heap[W.heap.size]? = some (.cells #[.slice A l.length c, .bool own] 26 (0, 0))) ∧ Aside0 (Below W.heap.size W wr)) (fun _ v8 _ => z - (intOf v8).toNat)
      case atStart => exact ⟨0, Nat.zero_le _, rfl, HV, X, HB⟩
      case round =>
        clear HV X HB hX0 hX1 fX0 fX1
        obtain ⟨s, hs, rfl, HV, X, HB⟩ := hrel
        (try clear hX0 hX1 fX0 fX1); have hX0 := (blk_cell X.out 0).trans rfl; have hX1 := (blk_cell X.out 1).trans rfl; have fX0 := blk_frozen X.out 0; have fX1 := blk_frozen X.out 1
        have hbl2 := blk_lt X.out
        by_cases hlt : s < z
        · have hsn := sols_snoc l s
          have hwl : (ints ((List.range s).filter fun x => evenP l x 0 && evenP l (othersP l x) 0)).length ≤ s := by
            rw [ints_length]
            exact Nat.le_trans (List.length_filter_le _ _) (by rw [List.length_range]; exact Nat.le_refl _)
          have hs2 : s < 2 ^ l.length := by rw [HZZ.out]; exact hlt
          have hos := others_lt hs2
          have xn := HAN.out s hlt
          obtain ⟨os, hos2⟩ : ∃ os, othersP l s = os := ⟨_, rfl⟩
          rw [hos2] at hos xn hsn
          obtain ⟨e1, he1⟩ : ∃ e1, evenP l s 0 = e1 := ⟨_, rfl⟩
          obtain ⟨e2, he2⟩ : ∃ e2, evenP l os 0 = e2 := ⟨_, rfl⟩
          rw [he1, he2] at hsn
          have E1 := Aside0.mk he1
          have E2 := Aside0.mk he2
          have HS2 := Aside0.mk hs2
          have HOS := Aside0.mk hos
          have hsn2 := congrArg ints hsn
          rw [ints_append] at hsn2
          generalize ints ((List.range s).filter fun x => evenP l x 0 && evenP l (othersP l x) 0) = word at *
          have HSN := Aside0.mk hsn2
          clear hsn hsn2 he1 he2 hs2 hos hos2
          cases e1 <;> cases e2
          all_goals
            go_wp2_with (first
              | (go_at_call 85; (with_reducible refine (paAll_q own (HR.out.below HB.out) HGG.out HS2.out E1.out).mono ?_); rintro e w4 ⟨rfl, hb⟩; have nX := Aside0.mk (blk_below X.out hb); have nV := Aside0.mk (Kd.R_below HV.out hb); have nB := Aside0.mk (below_step HB.out hb); clear X HB HV hb hX0 hX1 fX0 fX1 hbl2; have X := nX; have HV := nV; have HB := nB; clear nX nV nB; have hbl2 := blk_lt X.out; (try clear hX0 hX1 fX0 fX1); have hX0 := (blk_cell X.out 0).trans rfl; have hX1 := (blk_cell X.out 1).trans rfl; have fX0 := blk_frozen X.out 0; have fX1 := blk_frozen X.out 1)
              | (go_at_call 85; (with_reducible refine (paAll_q own (HR.out.below HB.out) HGG.out HOS.out E2.out).mono ?_); rintro e w5 ⟨rfl, hb⟩; have nX := Aside0.mk (blk_below X.out hb); have nV := Aside0.mk (Kd.R_below HV.out hb); have nB := Aside0.mk (below_step HB.out hb); clear X HB HV hb hX0 hX1 fX0 fX1 hbl2; have X := nX; have HV := nV; have HB := nB; clear nX nV nB; have hbl2 := blk_lt X.out; (try clear hX0 hX1 fX0 fX1); have hX0 := (blk_cell X.out 0).trans rfl; have hX1 := (blk_cell X.out 1).trans rfl; have fX0 := blk_frozen X.out 0; have fX1 := blk_frozen X.out 1)
              | ((with_reducible refine gate_builtin (b := .append) (xs := #[.tmp 39, .tmp 41]) rfl ?_); at_builtin; refine Kd.R_append (Kd.int .i64) (W.heap.size + 1) rfl (.tmp 39) (.tmp 41) 24 3 (.int .i64 0) 8 rfl Tryz.underlying24 info3 rfl (by decide) (by omega) (u7) word ((s : Int)) [.int .i64 ((s : Int))] (fun _ => True) (fun _ => False) rfl (by first | (go_simp; done) | (go_simp; rfl)) ?aP (fun _ hk => hk.elim) (fun _ _ => trivial) HV.out (Below.refl _ _) ?aS ?aL ?_; (case aP => exact rfl); (case aS => exact hbl2); (case aL => omega); intro v6 w6 ho hb _ _; have nX := Aside0.mk ((hb.block W.heap.size (Nat.lt_succ_self _)).trans X.out); have nB := Aside0.mk (HB.out.trans (hb.mono (Nat.le_succ _))); have nV := Aside0.mk ho; clear X HB HV hb ho hbl2; have X := nX; have HB := nB; have HV := nV; clear nX nB nV))
            go_roundw
            case rel => exact ⟨s + 1, by omega, by go_num, ⟨by rw [HSN.out]; first | exact HV.out | (rw [show ints (if (false && true) = true then [s] else []) = [] from rfl, List.append_nil]; exact HV.out) | (rw [show ints (if (true && false) = true then [s] else []) = [] from rfl, List.append_nil]; exact HV.out) | (rw [show ints (if (false && false) = true then [s] else []) = [] from rfl, List.append_nil]; exact HV.out)⟩, X, HB⟩
            case measure => simp [intOf]; omega
        · have es : s = 2 ^ l.length := by rw [HZZ.out]; omega
          have hV := HV.out
          rw [es, show (List.range (2 ^ l.length)).filter (fun x => evenP l x 0 && evenP l (othersP l x) 0) = solsP l from rfl] at hV
          have hln : (solsP l).length ≤ 65536 := Nat.le_trans (List.length_filter_le _ _) (by rw [List.length_range, HZZ.out]; omega)
          have HV2 := Aside0.mk (Rd.of hV (by rw [ints_length]; omega))
          clear hV HV es
          go_wp2
          go_ret2
          exact ⟨_, rfl, HV2.out, HB.out⟩
    · rw [evens_many h300] at hr
      injection hr with e1 e2
      subst e1 e2
      have hg3 : 300 < ((2 ^ (svP l 0).quiet.length : Nat) : Int) := by omega
      obtain ⟨zq, hzq⟩ : ∃ z, (2 : Nat) ^ (svP l 0).quiet.length = z := ⟨_, rfl⟩
      rw [hzq] at hg3
      have HZQ := Aside0.mk hzq
      clear hg hG h300 hzq
      go_wp2_with (first
        | (go_at_call 76; (with_reducible refine (grGood_s own R.out HG.out).mono ?_); rintro e w2 ⟨rfl, hb⟩; have nX := Aside0.mk (blk_below X.out hb); have nR := Aside0.mk (R.out.below hb); have nB := Aside0.mk (below_step HB.out hb); clear X HB R hb hX0 hX1 fX0 fX1; have X := nX; have R := nR; have HB := nB; clear nX nR nB; (try clear hX0 hX1 fX0 fX1); have hX0 := (blk_cell X.out 0).trans rfl; have hX1 := (blk_cell X.out 1).trans rfl; have fX0 := blk_frozen X.out 0; have fX1 := blk_frozen X.out 1)
        | (go_at_call 77; (with_reducible refine (paSplit_even own R.out HGG.out).mono ?_); rintro e w3 ⟨rfl, hb⟩; rw [HZQ.out]; have nB := Aside0.mk (below_step HB.out hb); clear X HB R hb hX0 hX1 fX0 fX1; have HB := nB; clear nB))
      go_ret2
      exact ⟨_, rfl, hnil _, HB.out⟩
end Go.Proofs.YtlohlngmagpepaaGreat.Draw
