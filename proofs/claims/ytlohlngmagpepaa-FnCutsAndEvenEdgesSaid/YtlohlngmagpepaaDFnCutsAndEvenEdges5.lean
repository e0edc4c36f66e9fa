/- What is drawn for FnCutsAndEvenEdges: within bounds, whatever it is. -/
import Derived.Test.YtlohlngmagpepaaPFnCutsAndEvenEdgesx
import Derived.Test.YtlohlngmagpepaaQFnCutsAndEvenEdges0
import Derived.Test.YtlohlngmagpepaaQFnCutsAndEvenEdges1
import Derived.Test.YtlohlngmagpepaaM1
import Derived.Test.YtlohlngmagpepaaM44
import Derived.WalkKit
import Derived.RowKit3
import Derived.Deep.QuietTactic
import Derived.BigQuiet
import Derived.Deep.DeepCutAuto
import Derived.Deep.CutBlock
import Derived.Deep.LoopGhost
import Derived.Outline
import Derived.Deep.DeepFit
import Derived.Test.YtlohlngmagpepaaDFnCutsAndEvenEdges0
import Derived.Test.YtlohlngmagpepaaDFnCutsAndEvenEdges2
namespace Go.Proofs.Ytlohlngmagpepaa.Draw
open Go.RowKit Go.Proofs.Ytlohlngmagpepaa.PFnCutsAndEvenEdges Go.Proofs.YtlohlngmagpepaaW.PrintWords Go.Proofs.YtlohlngmagpepaaW.PrintLast Go.Proofs.YtlohlngmagpepaaW.PrintMore Go.Proofs.YtlohlngmagpepaaM Go.Proofs.Ytlohlngmagpepaa.Pure
attribute [local go_sem] max2_int min2_int max_two min_two max_three min_three max_four min_four
set_option linter.unusedVariables false
set_option linter.unusedSimpArgs false
variable {w0 w w1 W : World} {g : Nat} {a : Int}
theorem count_q (a : Nat) (ha : a < 65536) : ∀ w, Calls Try.prog 32 #[.int .i64 (a : Int)] w fun r w' => r = .returned (.int .i64 ((pop a : Nat) : Int)) ∧ ∃ n, w' = w.drewN n := fun w =>
  (impl_count.calls (a : Int) _ w (impl_count.eq (a : Int) (by omega) (by omega))).mono fun _ _ ⟨he, hd⟩ => ⟨he, hd.out⟩
set_option maxRecDepth 100000 in
set_option maxHeartbeats 4000000 in
theorem splits_any {W : World} {v : Value} {l : List Int} (own : Bool) {r : Nat} (h : Rd W v l) (hG : GoodG l) (hr : r < 2) :
    Calls Try.prog 62 #[.agg #[v, .bool own], .int .i64 (r : Int)] W fun e W' => ∃ b, e = .returned (.tuple #[.pointer (some ⟨b, 0, none⟩), .int .i64 ((dueP l r l.length : Nat) : Int)]) ∧ W.heap.size ≤ b ∧ SvAt W' b (svP l r) ∧ Below W.heap.size W W' := by
  have hu := Try.underlying26
  have hlen := h.len
  obtain ⟨A, c, rfl⟩ := h.slice
  have HR := Aside0.mk h
  have HG := Aside0.mk hG
  have hg1 := hG.top
  have HB := Aside0.mk (below_alloc (Below.refl W.heap.size W) (.cells #[.slice A l.length c, .bool own] 26 (0, 0)))
  have X := Aside0.mk (blk_new W (.cells #[.slice A l.length c, .bool own] 26 (0, 0)))
  clear h hG
  go_enter Try.func62, Try.ntmps62
  go_upto_region 1 with (fail)
  generalize W.alloc (.cells #[.slice A l.length c, .bool own] 26 (0, 0)) = w1 at *
  have hbl := blk_lt X.out
  have HV := Aside0.mk (Kd.R_of_own (h1 := fun _ => rfl) (enc := Value.int .i64) (xs := []) (ok := fun _ => True) (World.ownsRow_made (base := W.heap.size + 1) (e := 3) w1 #[] 0 hbl (Nat.zero_le _) rfl) (fun _ _ => trivial))
  have nX := Aside0.mk (blk_alloc X.out (.cells #[] 3 (0, 0)))
  have nB := Aside0.mk (below_alloc HB.out (.cells #[] 3 (0, 0)))
  clear X HB
  have X := nX
  have HB := nB
  clear nX nB
  go_upto_region 2 with (fail)
  generalize w1.alloc (.cells #[] 3 (0, 0)) = w2 at *
  (try clear hX0 hX1 fX0 fX1); have hX0 := (blk_cell X.out 0).trans rfl; have hX1 := (blk_cell X.out 1).trans rfl; have fX0 := blk_frozen X.out 0; have fX1 := blk_frozen X.out 1
  go_wp2
  go_loopw [6, 7, 14] (fun v6 v7 v14 wr => ∃ j : Nat, j ≤ l.length ∧ v14 = .int .i64 (j : Int) ∧ v7 = .int .i64 ((dueP l r j : Nat) : Int) ∧ Aside0 (Kd.R (Kd.int .i64) 3 wr (W.heap.size + 1) (fun _ => True) v6 (ints ((List.range j).map (rowP l r)))) ∧ Aside0 (wr.heap[W.heap.size]? = some (.cells #[.slice A l.length c, .bool own] 26 (0, 0))) ∧ Aside0 (Below W.heap.size W wr)) (fun _ _ v14 _ => l.length - (intOf v14).toNat)
  case atStart => exact ⟨0, Nat.zero_le _, rfl, rfl, HV, X, HB⟩
  case round =>
    clear HV X HB hX0 hX1 fX0 fX1
    obtain ⟨j, hj, rfl, rfl, HV, X, HB⟩ := hrel
    (try clear hX0 hX1 fX0 fX1); have hX0 := (blk_cell X.out 0).trans rfl; have hX1 := (blk_cell X.out 1).trans rfl; have fX0 := blk_frozen X.out 0; have fX1 := blk_frozen X.out 1
    have hbl2 := blk_lt X.out
    by_cases hlt : j < l.length
    · have h16 : (2 : Nat) ^ l.length ≤ 2 ^ 16 := Nat.pow_le_pow_right (by decide) hg1
      have htk : ints ((List.range (j + 1)).map (rowP l r)) = ints ((List.range j).map (rowP l r)) ++ [((rowP l r j : Nat) : Int)] := by
        rw [List.range_succ, List.map_append, ints_append]
        rfl
      have hwl : (ints ((List.range j).map (rowP l r))).length = j := by rw [ints_length, List.length_map, List.length_range]
      generalize ints ((List.range j).map (rowP l r)) = word at *
      obtain ⟨ad, e1, hc_⟩ := HR.out.cell (j : Int) (by omega) (by omega)
      subst e1
      clear hc_
      have hcell := (HR.out.below HB.out).cellN j (by omega)
      have hn := nb_lt HG.out hlt
      have hrd : rd l (j : Int) = ((nb l j : Nat) : Int) := by
        have hx := HG.out.sets (rd l (j : Int)) (rd_mem l _ (by omega) (by omega))
        unfold nb
        omega
      rw [hrd] at hcell
      clear hrd
      have hd := dueP_lt l r j
      have hpj : (2 : Nat) ^ j < 2 ^ l.length := Nat.pow_lt_pow_right (by decide) hlt
      have ha16 : nb l j < 65536 := by omega
      have hz16 : (2 : Nat) ^ j < 65536 := by omega
      have hd16 : dueP l r j < 65536 := Nat.lt_trans hd hz16
      have hwz : wrap64 (2 ^ j) = ((2 ^ j : Nat) : Int) := by
        have h5 : (2 : Nat) ^ j < 65536 := by omega
        rw [← pow_cast]
        generalize 2 ^ j = z at h5 ⊢
        exact wrap_id (by omega) (by omega)
      have HWZ := Aside0.mk hwz
      clear hwz
      have ER := Aside0.mk (show rowP l r j = if duP l r j = true then nb l j ||| 2 ^ j else nb l j from rfl)
      obtain ⟨d1, hd1⟩ : ∃ d1, dueP l r (j + 1) = d1 := ⟨_, rfl⟩
      have ED := Aside0.mk (hd1.symm.trans (show dueP l r (j + 1) = if duP l r j = true then dueP l r j ||| 2 ^ j else dueP l r j from rfl))
      have HD1 := Aside0.mk hd1
      have HDU := Aside0.mk (show decide ((pop (nb l j) + r) % 2 = 1) = duP l r j from rfl)
      have hpop : pop (nb l j) ≤ 16 := Nat.le_trans (pop_le (by omega) hn) hg1
      have HTK := Aside0.mk htk
      clear hd1 hd hpj h16 htk hn
      generalize dueP l r j = d at *
      generalize rowP l r j = x at *
      generalize nb l j = a at *
      generalize (2 : Nat) ^ j = z at *
      generalize duP l r j = du at *
      have xd : Go.bits .or .i64 (d : Int) (z : Int) = ((d ||| z : Nat) : Int) := or_nat d z (by omega) (by omega)
      have xa : Go.bits .or .i64 (a : Int) (z : Int) = ((a ||| z : Nat) : Int) := or_nat a z (by omega) (by omega)
      have hdu := HDU.out
      have er := ER.out
      obtain ⟨az, haz⟩ : ∃ n, a ||| z = n := ⟨_, rfl⟩
      rw [haz] at er xa
      have t1 : ((Int.tmod (((pop a : Nat) : Int) + (r : Int)) 2) == 1) = du := by
        rw [show (((pop a : Nat) : Int) + (r : Int)) = ((pop a + r : Nat) : Int) from (Int.natCast_add _ _).symm, show Int.tmod ((pop a + r : Nat) : Int) 2 = (((pop a + r) % 2 : Nat) : Int) from rfl, ← hdu]
        generalize pop a + r = y
        rw [Bool.eq_iff_iff, beq_iff_eq, decide_eq_true_eq]
        omega
      have t2 : (((((pop a : Nat) : Int) + (r : Int)) % 2) == 1) = du := by
        rw [← hdu, Bool.eq_iff_iff, beq_iff_eq, decide_eq_true_eq]
        omega
      have hpop2 : ((pop a : Nat) : Int) ≤ 16 := by omega
      have HED := ED
      have hwz := HWZ.out
      clear hdu hpop haz ER ED HDU HWZ
      cases du
      all_goals
        have HER := Aside0.mk er
        clear er
        go_wp2_with (first
          | (go_at_call 32; (with_reducible refine (count_q a ha16 _).mono ?_); rintro e w4 ⟨rfl, n1, rfl⟩; have hb := pw_below_drewN (Below.refl wr.heap.size wr) n1; have nX := Aside0.mk (blk_below X.out hb); have nV := Aside0.mk (Kd.R_below HV.out hb); have nB := Aside0.mk (below_step HB.out hb); clear X HV HB hb hX0 hX1 fX0 fX1 hbl2 hcell; generalize wr.drewN n1 = w4 at *; have X := nX; have HV := nV; have HB := nB; clear nX nV nB; have hbl2 := blk_lt X.out)
          | ((with_reducible refine gate_builtin (b := .append) (xs := #[.tmp 33, .tmp 35]) rfl ?_); at_builtin; refine Kd.R_append (Kd.int .i64) (W.heap.size + 1) rfl (.tmp 33) (.tmp 35) 24 3 (.int .i64 0) 8 rfl Try.underlying24 info3 rfl (by decide) (by omega) (u6) word ((az : Int)) [.int .i64 ((az : Int))] (fun _ => True) (fun _ => False) rfl (by first | (go_simp; done) | (go_simp; rfl)) ?aP (fun _ hk => hk.elim) (fun _ _ => trivial) HV.out (Below.refl _ _) ?aS ?aL ?_; (case aP => exact rfl); (case aS => exact hbl2); (case aL => omega); intro v5 w5 ho hb _ _; have nX := Aside0.mk ((hb.block W.heap.size (Nat.lt_succ_self _)).trans X.out); have nB := Aside0.mk (HB.out.trans (hb.mono (Nat.le_succ _))); have nV := Aside0.mk ho; clear X HB HV hb ho hbl2; have X := nX; have HB := nB; have HV := nV; clear nX nB nV)
          | ((with_reducible refine gate_builtin (b := .append) (xs := #[.tmp 33, .tmp 35]) rfl ?_); at_builtin; refine Kd.R_append (Kd.int .i64) (W.heap.size + 1) rfl (.tmp 33) (.tmp 35) 24 3 (.int .i64 0) 8 rfl Try.underlying24 info3 rfl (by decide) (by omega) (u6) word ((a : Int)) [.int .i64 ((a : Int))] (fun _ => True) (fun _ => False) rfl (by first | (go_simp; done) | (go_simp; rfl)) ?aP (fun _ hk => hk.elim) (fun _ _ => trivial) HV.out (Below.refl _ _) ?aS ?aL ?_; (case aP => exact rfl); (case aS => exact hbl2); (case aL => omega); intro v5 w5 ho hb _ _; have nX := Aside0.mk ((hb.block W.heap.size (Nat.lt_succ_self _)).trans X.out); have nB := Aside0.mk (HB.out.trans (hb.mono (Nat.le_succ _))); have nV := Aside0.mk ho; clear X HB HV hb ho hbl2; have X := nX; have HB := nB; have HV := nV; clear nX nB nV))
        go_roundw
        case rel => exact ⟨j + 1, by omega, by go_num, by rw [HD1.out, HED.out]; rfl, ⟨by rw [HTK.out, HER.out]; exact HV.out⟩, X, HB⟩
        case measure => simp [intOf]; omega
    · have ej : j = l.length := by omega
      subst ej
      have hV := HV.out
      rw [show (List.range l.length).map (rowP l r) = rowsP l r from rfl] at hV
      obtain ⟨Av, cv, rfl⟩ := Kd.R_slice hV
      have RV := Aside0.mk (Rd.of hV (by rw [ints_length, rowsP_length]; omega))
      have hb16 : (2 : Nat) ^ l.length < 2 ^ 62 := Nat.pow_lt_pow_right (by decide) (by omega)
      have HT : Aside0 (∀ e ∈ rowsP l r, e < 2 ^ 62) := ⟨fun e he => by
        obtain ⟨i, hi, rfl⟩ := List.mem_map.1 he
        exact Nat.lt_trans ((rowP_sym HG.out r).lt i (List.mem_range.1 hi)) hb16⟩
      have htl2 : (rowsP l r).length ≤ 61 := by rw [rowsP_length]; omega
      clear hV HV
      go_wp2_with (go_at_call 69; (with_reducible refine (solverFor_any RV.out htl2 HT.out).mono ?_); rintro e w4 ⟨b, rfl, hle, hs, hb⟩; have HS := Aside0.mk hs; have nB := Aside0.mk (below_step HB.out hb); have hle2 := Nat.le_trans HB.out.size hle; clear hs hb HB; have HB := nB; clear nB)
      go_ret2
      exact ⟨b, rfl, hle2, HS.out, HB.out⟩
set_option maxRecDepth 100000 in
set_option maxHeartbeats 4000000 in
theorem countSplits_any {W : World} {v : Value} {l : List Int} (own : Bool) {r : Nat} {x : Int} {ok : Bool} (h : Rd W v l) (hr2 : r < 2) (hr : cntR l r = (x, ok)) : Calls Try.prog 44 #[.agg #[v, .bool own], .int .i64 (r : Int)] W fun e W' => e = .returned (.tuple #[.int .i64 x, .bool ok]) ∧ Below W.heap.size W W' := by
  have hu := Try.underlying26
  obtain ⟨A, c, rfl⟩ := h.slice
  have HB := Aside0.mk (below_alloc (Below.refl W.heap.size W) (.cells #[.slice A l.length c, .bool own] 26 (0, 0)))
  have X := Aside0.mk (blk_new W (.cells #[.slice A l.length c, .bool own] 26 (0, 0)))
  have R := Aside0.mk (h.alloc (.cells #[.slice A l.length c, .bool own] 26 (0, 0)))
  have hu2 := Try.underlying80
  clear h
  go_enter Try.func44, Try.ntmps44
  go_upto_region 1 with (fail)
  generalize W.alloc (.cells #[.slice A l.length c, .bool own] 26 (0, 0)) = w1 at *
  (try clear hX0 hX1 fX0 fX1); have hX0 := (blk_cell X.out 0).trans rfl; have hX1 := (blk_cell X.out 1).trans rfl; have fX0 := blk_frozen X.out 0; have fX1 := blk_frozen X.out 1
  cases hg : good l
  · rw [cnt_bad r hg] at hr
    injection hr with e1 e2
    subst e1 e2
    have HG := Aside0.mk hg
    clear hg
    go_wp2_with (go_at_call 31; (with_reducible refine (isGraph_any own R.out HG.out).mono ?_); rintro e w2 ⟨rfl, hb⟩; have nB := Aside0.mk (below_step HB.out hb); clear X HB R hb hX0 hX1 fX0 fX1; have HB := nB; clear nB)
    go_ret2
    exact ⟨rfl, HB.out⟩
  · have hG := (good_iff l).1 hg
    rw [cnt_good r hg] at hr
    injection hr with e1 e2
    subst e2
    have HG := Aside0.mk hg
    have HGG := Aside0.mk hG
    have hql := (svP_quiet hG r).2.1
    have htop := hG.top
    have hql2 : (svP l r).quiet.length ≤ 16 := by omega
    have hq16 : (2 : Nat) ^ (svP l r).quiet.length ≤ 2 ^ 16 := Nat.pow_le_pow_right (by decide) hql2
    have hwq : wrap64 (2 ^ (svP l r).quiet.length) = x := by
      rw [← e1, ← pow_cast]
      generalize 2 ^ (svP l r).quiet.length = z at hq16 ⊢
      exact wrap_id (by omega) (by omega)
    have HWQ := Aside0.mk hwq
    clear hg hG hq16 hwq e1 hql htop
    go_wp2_with (first
      | (go_at_call 31; (with_reducible refine (isGraph_any own R.out HG.out).mono ?_); rintro e w2 ⟨rfl, hb⟩; have nX := Aside0.mk (blk_below X.out hb); have nR := Aside0.mk (R.out.below hb); have nB := Aside0.mk (below_step HB.out hb); clear X HB R hb hX0 hX1 fX0 fX1; have X := nX; have R := nR; have HB := nB; clear nX nR nB; (try clear hX0 hX1 fX0 fX1); have hX0 := (blk_cell X.out 0).trans rfl; have hX1 := (blk_cell X.out 1).trans rfl; have fX0 := blk_frozen X.out 0; have fX1 := blk_frozen X.out 1)
      | (go_at_call 62; (with_reducible refine (splits_any own R.out HGG.out hr2).mono ?_); rintro e w3 ⟨bs, rfl, hle, hs, hb⟩; obtain ⟨vp, vq, vi, hS, hP, hQ, hI⟩ := hs; obtain ⟨Aq, cq, rfl⟩ := Kd.R_slice hQ; rw [ints_length] at hS; have hS1 := (blk_cell hS 1).trans rfl; clear hS hP hQ hI hle; have nB := Aside0.mk (below_step HB.out hb); clear X HB R hb hX0 hX1 fX0 fX1; have HB := nB; clear nB))
    go_ret2
    exact ⟨by first | (rw [HWQ.out]; rfl) | rfl, HB.out⟩
theorem count_zero {W : World} {v : Value} {l : List Int} (own : Bool) {x : Int} {ok : Bool} (h : Rd W v l) (hr : cntR l 0 = (x, ok)) : Calls Try.prog 44 #[.agg #[v, .bool own], .int .i64 0] W fun e W' => e = .returned (.tuple #[.int .i64 x, .bool ok]) ∧ Below W.heap.size W W' := countSplits_any own (r := 0) h (by decide) hr
set_option maxRecDepth 100000 in
set_option maxHeartbeats 4000000 in
theorem implCountEvenSplits_any {W : World} {v : Value} {l : List Int} (own : Bool) {x : Int} {ok : Bool} (h : Rd W v l) (hr : cntR l 0 = (x, ok)) : Calls Try.prog 22 #[.agg #[v, .bool own]] W fun e W' => e = .returned (.tuple #[.int .i64 x, .bool ok]) ∧ Below W.heap.size W W' := by
  have hu := Try.underlying26
  obtain ⟨A, c, rfl⟩ := h.slice
  have HB := Aside0.mk (below_alloc (Below.refl W.heap.size W) (.cells #[.slice A l.length c, .bool own] 26 (0, 0)))
  have X := Aside0.mk (blk_new W (.cells #[.slice A l.length c, .bool own] 26 (0, 0)))
  have R := Aside0.mk (h.alloc (.cells #[.slice A l.length c, .bool own] 26 (0, 0)))
  have HQ := Aside0.mk hr
  clear h hr
  go_enter Try.func22, Try.ntmps22
  go_upto_region 1 with (fail)
  generalize W.alloc (.cells #[.slice A l.length c, .bool own] 26 (0, 0)) = w1 at *
  (try clear hX0 hX1 fX0 fX1); have hX0 := (blk_cell X.out 0).trans rfl; have hX1 := (blk_cell X.out 1).trans rfl; have fX0 := blk_frozen X.out 0; have fX1 := blk_frozen X.out 1
  go_wp2_with (go_at_call 44; (with_reducible refine (count_zero own R.out HQ.out).mono ?_); rintro e w2 ⟨rfl, hb⟩; have nB := Aside0.mk (below_step HB.out hb); clear X HB R hb hX0 hX1 fX0 fX1; have HB := nB; clear nB)
  go_ret2
  exact ⟨rfl, HB.out⟩
end Go.Proofs.Ytlohlngmagpepaa.Draw
namespace Go.Proofs.Ytlohlngmagpepaa.Draw
open Go.RowKit Go.Proofs.Ytlohlngmagpepaa.PFnCutsAndEvenEdges Go.Proofs.YtlohlngmagpepaaW.PrintWords Go.Proofs.YtlohlngmagpepaaW.PrintLast Go.Proofs.YtlohlngmagpepaaW.PrintMore Go.Proofs.YtlohlngmagpepaaM Go.Proofs.Ytlohlngmagpepaa.Pure
attribute [local go_sem] max2_int min2_int max_two min_two max_three min_three max_four min_four
set_option linter.unusedVariables false
set_option linter.unusedSimpArgs false
variable {w0 w w1 W : World} {g : Nat} {a : Int}
set_option maxRecDepth 100000 in
set_option maxHeartbeats 4000000 in
theorem implCountEvenCuts_any {W : World} {v : Value} {l : List Int} (own : Bool) {x : Int} {ok : Bool} (h : Rd W v l) (hr : evenCutsR l = (x, ok)) : Calls Try.prog 17 #[.agg #[v, .bool own]] W fun e W' => e = .returned (.tuple #[.int .i64 x, .bool ok]) ∧ Below W.heap.size W W' := by
  have hu := Try.underlying26
  have HR := Aside0.mk h
  obtain ⟨A, c, rfl⟩ := h.slice
  have HB := Aside0.mk (below_alloc (Below.refl W.heap.size W) (.cells #[.slice A l.length c, .bool own] 26 (0, 0)))
  have X := Aside0.mk (blk_new W (.cells #[.slice A l.length c, .bool own] 26 (0, 0)))
  have R := Aside0.mk (h.alloc (.cells #[.slice A l.length c, .bool own] 26 (0, 0)))
  clear h
  unfold evenCutsR at hr
  go_enter Try.func17, Try.ntmps17
  go_upto_region 1 with (fail)
  generalize W.alloc (.cells #[.slice A l.length c, .bool own] 26 (0, 0)) = w1 at *
  (try clear hX0 hX1 fX0 fX1); have hX0 := (blk_cell X.out 0).trans rfl; have hX1 := (blk_cell X.out 1).trans rfl; have fX0 := blk_frozen X.out 0; have fX1 := blk_frozen X.out 1
  cases hg : good l
  · rw [hg, if_neg (fun h => by cases h.1)] at hr
    injection hr with e1 e2
    subst e1 e2
    have Q1 := Aside0.mk (cnt_bad 0 hg)
    clear hg
    go_wp2_with (go_at_call 44; (with_reducible refine (count_zero own R.out Q1.out).mono ?_); rintro e w2 ⟨rfl, hb⟩; have nX := Aside0.mk (blk_below X.out hb); have nR := Aside0.mk (R.out.below hb); have nB := Aside0.mk (below_step HB.out hb); clear X HB R hb hX0 hX1 fX0 fX1; have X := nX; have R := nR; have HB := nB; clear nX nR nB; (try clear hX0 hX1 fX0 fX1); have hX0 := (blk_cell X.out 0).trans rfl; have hX1 := (blk_cell X.out 1).trans rfl; have fX0 := blk_frozen X.out 0; have fX1 := blk_frozen X.out 1)
    go_ret2
    exact ⟨rfl, HB.out⟩
  · have hG := (good_iff l).1 hg
    have Q1 := Aside0.mk (cnt_good 0 hg)
    have hlen := evenCuts_len hG
    have hpl := (parts_inv (nbs_lt hG) (nbs_sym hG) l.length (Nat.le_refl _)).len
    have htop := hG.top
    have hC : ∀ w3, Below W.heap.size W w3 → Calls Try.prog 45 #[.agg #[.slice A l.length c, .bool own]] w3 fun e w' => ∃ a b, e = .returned (.slice a (partsUp (nbs l) l.length l.length).1.length b) ∧ Below w3.heap.size w3 w' := fun w3 hb => by
      obtain ⟨A', c', e', hc', hC', _⟩ := HR.out.below hb
      injection e' with e1 e2 e3
      subst e1 e3
      obtain ⟨K, hK⟩ := impl_Graph_parts.ev l own hG
      exact (impl_Graph_parts.calls K _ _ l own _ w3 hC' hc' (hK K (Nat.le_refl _))).mono fun _ _ ⟨u, he, h1, h2⟩ => by
        obtain ⟨a, b, rfl⟩ := Kd.R_slice h1
        rw [ints_length] at he
        exact ⟨a, b, he, h2⟩
    have HC := Aside0.mk hC
    rw [← hlen] at Q1
    clear hC hG
    generalize (partsUp (nbs l) l.length l.length).1.length = k at *
    generalize (evenCuts l).length = z at *
    by_cases h10 : l.length ≤ 10
    · rw [hg, if_pos ⟨rfl, h10⟩] at hr
      injection hr with e1 e2
      subst e2
      have hval : ((z : Int) / 2 ^ k) = x := by
        rw [← e1, Nat.shiftRight_eq_div_pow, ← pow_cast]
        exact (Int.natCast_ediv z (2 ^ k)).symm
      have HVAL := Aside0.mk hval
      have hk16 : k ≤ 16 := by omega
      clear hg e1 hlen hpl hval htop
      go_wp2_with (first
        | (go_at_call 44; (with_reducible refine (count_zero own R.out Q1.out).mono ?_); rintro e w2 ⟨rfl, hb⟩; have nX := Aside0.mk (blk_below X.out hb); have nR := Aside0.mk (R.out.below hb); have nB := Aside0.mk (below_step HB.out hb); clear X HB R hb hX0 hX1 fX0 fX1; have X := nX; have R := nR; have HB := nB; clear nX nR nB; (try clear hX0 hX1 fX0 fX1); have hX0 := (blk_cell X.out 0).trans rfl; have hX1 := (blk_cell X.out 1).trans rfl; have fX0 := blk_frozen X.out 0; have fX1 := blk_frozen X.out 1)
        | (go_at_call 45; (with_reducible refine (HC.out _ HB.out).mono ?_); rintro e w3 ⟨a, b, rfl, hb⟩; have nB := Aside0.mk (below_step HB.out hb); clear X HB R hb hX0 hX1 fX0 fX1; have HB := nB; clear nB))
      go_ret2
      exact ⟨by first | (rw [HVAL.out]; rfl) | rfl, HB.out⟩
    · rw [hg, if_neg (fun h => h10 h.2)] at hr
      injection hr with e1 e2
      subst e1 e2
      clear hg hlen hpl
      go_wp2_with (go_at_call 44; (with_reducible refine (count_zero own R.out Q1.out).mono ?_); rintro e w2 ⟨rfl, hb⟩; have nX := Aside0.mk (blk_below X.out hb); have nR := Aside0.mk (R.out.below hb); have nB := Aside0.mk (below_step HB.out hb); clear X HB R hb hX0 hX1 fX0 fX1; have X := nX; have R := nR; have HB := nB; clear nX nR nB; (try clear hX0 hX1 fX0 fX1); have hX0 := (blk_cell X.out 0).trans rfl; have hX1 := (blk_cell X.out 1).trans rfl; have fX0 := blk_frozen X.out 0; have fX1 := blk_frozen X.out 1)
      go_ret2
      exact ⟨rfl, HB.out⟩
theorem degreesR_len {l r : List Int} {ok : Bool} (hr : degreesR l = (r, ok)) : r.length ≤ 1048576 := by
  unfold degreesR at hr
  split at hr
  · next h =>
    have hG := (good_iff l).1 h
    have := hG.top
    injection hr with e _
    rw [← e, ints_length, List.length_map, List.length_range]
    omega
  · injection hr with e _
    rw [← e]
    simp
theorem impl_CountEvenEdges.sem {W : World} {v : Value} {l : List Int} (own : Bool) {x : Int} {ok : Bool} (h : Rd W v l) (hr : evenEdgesR l = (x, ok)) : Calls Try.prog 20 #[.agg #[v, .bool own]] W fun e W' => e = .returned (.tuple #[.int .i64 x, .bool ok]) ∧ Below W.heap.size W W' := by
  obtain ⟨A, c, rfl, hc, hC, hl⟩ := h
  obtain ⟨K, hK⟩ := ev_get (impl_CountEvenEdges.ev l own)
  exact impl_CountEvenEdges.calls K A c l own x ok W hC hc ((hK K (Nat.le_refl _)).trans (by first | rw [hr] | (rw [← hr]; rfl)))
theorem spec_CountEvenEdges.sem {W : World} {v : Value} {l : List Int} (own : Bool) {x : Int} {ok : Bool} (h : Rd W v l) (hr : evenEdgesR l = (x, ok)) : Calls Try.prog 21 #[.agg #[v, .bool own]] W fun e W' => e = .returned (.tuple #[.int .i64 x, .bool ok]) ∧ Below W.heap.size W W' := by
  obtain ⟨A, c, rfl, hc, hC, hl⟩ := h
  obtain ⟨K, hK⟩ := ev_get (spec_CountEvenEdges.ev l own (by omega))
  exact spec_CountEvenEdges.calls K A c l own x ok W hC hc ((hK K (Nat.le_refl _)).trans (by first | rw [hr] | (rw [← hr]; rfl)))
theorem spec_CountEvenCuts.sem {W : World} {v : Value} {l : List Int} (own : Bool) {x : Int} {ok : Bool} (h : Rd W v l) (hr : evenCutsR l = (x, ok)) : Calls Try.prog 18 #[.agg #[v, .bool own]] W fun e W' => e = .returned (.tuple #[.int .i64 x, .bool ok]) ∧ Below W.heap.size W W' := by
  obtain ⟨A, c, rfl, hc, hC, hl⟩ := h
  obtain ⟨K, hK⟩ := ev_get (spec_CountEvenCuts.ev l own (by omega))
  exact spec_CountEvenCuts.calls K A c l own x ok W hC hc ((hK K (Nat.le_refl _)).trans (by first | rw [hr] | (rw [← hr]; rfl)))
theorem impl_DegreesOf.sem {W : World} {v : Value} {l : List Int} (own : Bool) {r : List Int} {ok : Bool} (h : Rd W v l) (hr : degreesR l = (r, ok)) : Calls Try.prog 11 #[.agg #[v, .bool own]] W fun e W' => ∃ u, e = .returned (.tuple #[u, .bool ok]) ∧ Nw W W' u r ∧ Below W.heap.size W W' := by
  obtain ⟨A, c, rfl, hc, hC, hl⟩ := h
  obtain ⟨K, hK⟩ := ev_get (impl_DegreesOf.ev l own)
  have hln : r.length ≤ 1048576 := degreesR_len hr
  exact (impl_DegreesOf.calls K A c l own r ok W hC hc ((hK K (Nat.le_refl _)).trans (by rw [← hr] <;> rfl))).mono fun _ _ ⟨u, he, h1, h2⟩ => ⟨u, he, ⟨h1, hln⟩, h2⟩
end Go.Proofs.Ytlohlngmagpepaa.Draw
namespace Go.Proofs.Ytlohlngmagpepaa.Draw
open Go.RowKit Go.Proofs.Ytlohlngmagpepaa.PFnCutsAndEvenEdges Go.Proofs.YtlohlngmagpepaaW.PrintWords Go.Proofs.YtlohlngmagpepaaW.PrintLast Go.Proofs.YtlohlngmagpepaaW.PrintMore Go.Proofs.YtlohlngmagpepaaM Go.Proofs.Ytlohlngmagpepaa.Pure
attribute [local go_sem] max2_int min2_int max_two min_two max_three min_three max_four min_four
set_option linter.unusedVariables false
set_option linter.unusedSimpArgs false
variable {w0 w w1 W : World} {g : Nat} {a : Int}
set_option maxRecDepth 100000 in
set_option maxHeartbeats 8000000 in
theorem DrawDegreesWithin_any {W : World} {v : Value} {l0 : List Int} (h : Rb W v l0) : Calls Try.prog 24 #[v] W (DrawGSP W) := by
  obtain ⟨A, c, rfl, hcl, hr, hx⟩ := h
  have hu := Try.underlying26
  have huc := Try.underlying56
  have HW := Aside0.mk (below_alloc (Below.refl W.heap.size W) (.cells #[.slice none 0 0, .bool false] 26))
  have X := Aside0.mk (blk_new W (.cells #[.slice none 0 0, .bool false] 26))
  have HR0 := Aside0.mk (Kd.C_alloc hr (.cells #[.slice none 0 0, .bool false] 26))
  have HXX := Aside0.mk hx
  clear hr hx hcl
  go_enter Try.func24, Try.ntmps24
  go_upto_region 1 with (fail)
  generalize W.alloc (.cells #[.slice none 0 0, .bool false] 26) = w1 at *
  have HC := Aside0.mk (Cur.new w1 A c l0 HR0.out HXX.out)
  have hXg := Nat.ne_of_lt (blk_lt X.out)
  have hXl := blk_lt X.out
  have hRg : w1.heap.size < (w1.alloc (Obj.cells #[Value.slice A l0.length c, Value.int IntKind.i64 0, Value.int IntKind.u64 0] 56)).heap.size := by simp
  go_upto_region 3 with (go_at_call 33; (with_reducible refine (graph_any _ _ HC.out (by omega) (by omega) (by omega)).mono ?_); rintro e w2 ⟨z, l, own, rfl, hr, hll, hc, hk⟩; obtain ⟨A2, c2, rfl⟩ := Kd.R_slice hr; have nR := Aside0.mk hr; clear hr; have hXx := blk_alloc X.out (.cells #[.slice A l0.length c, .int .i64 0, .int .u64 0] 56); have nX := Aside0.mk (hk.blk hXx hXg (by simp)); have nC := Aside0.mk hc; have hYG := hc.lt; clear hc hk hXx HC X; have HC := nC; have X := nX; have R := nR; clear nC nX nR)
  have hY2 := blk_lt X.out
  have nY := Aside0.mk (blk_new w2 (.cells #[.slice A2 l.length c2, .bool own] 26)); have nC := Aside0.mk (HC.out.alloc (.cells #[.slice A2 l.length c2, .bool own] 26)); have nX := Aside0.mk (blk_alloc X.out (.cells #[.slice A2 l.length c2, .bool own] 26)); have nR := Aside0.mk (Kd.R_alloc R.out (.cells #[.slice A2 l.length c2, .bool own] 26)); clear HC X R; generalize World.alloc w2 (.cells #[.slice A2 l.length c2, .bool own] 26) = w3 at *; have HC := nC; clear nC; have hYg : w2.heap.size ≠ _ := Nat.ne_of_gt hYG; have Y := nY; clear nY; have X := nX; clear nX; have R := nR; clear nR
  (try clear hY0 hY1 fY0 fY1); have hY0 := (blk_cell Y.out 0).trans rfl; have hY1 := (blk_cell Y.out 1).trans rfl; have fY0 := blk_frozen Y.out 0; have fY1 := blk_frozen Y.out 1
  go_region_held3 (fun w' => w'.cell? ⟨w2.heap.size, 0, none⟩ = some (.slice A2 l.length c2) ∧ w'.cell? ⟨w2.heap.size, 1, none⟩ = some (.bool own)) (first | exact ⟨hY0, hY1⟩ | exact ⟨cell_far2 hY0 (by simp only; omega), cell_far2 hY1 (by simp only; omega)⟩ | exact ⟨cell_far2 (cell_far2 hY0 (by simp only; omega)) (by simp only; omega), cell_far2 (cell_far2 hY1 (by simp only; omega)) (by simp only; omega)⟩ | go_keep) (first
    | (go_at_call 48; (with_reducible refine (set_any own _ HC.out.drew (by omega) (by omega)).mono ?_); rintro e w4 ⟨a_w4, rfl, hc, hk⟩; have nC := Aside0.mk hc; have nX := Aside0.mk (hk.blk (blk_drew X.out) hXg (by simp)); have nY := Aside0.mk (hk.blk (blk_drew Y.out) hYg (by simp)); have nR := Aside0.mk (row_keep (Kd.R_drew R.out) hk hRg); clear hc hk HC X Y R; have HC := nC; clear nC; have X := nX; clear nX; have Y := nY; clear nY; have R := nR; clear nR; (try clear hY0 hY1 fY0 fY1); have hY0 := (blk_cell Y.out 0).trans rfl; have hY1 := (blk_cell Y.out 1).trans rfl; have fY0 := blk_frozen Y.out 0; have fY1 := blk_frozen Y.out 1; (try clear hX0 hX1 fX0 fX1); have hX0 := (blk_cell X.out 0).trans rfl; have hX1 := (blk_cell X.out 1).trans rfl; have fX0 := blk_frozen X.out 0; have fX1 := blk_frozen X.out 1)
    | (go_at_call 48; (with_reducible refine (set_any own _ HC.out (by omega) (by omega)).mono ?_); rintro e w5 ⟨a_w5, rfl, hc, hk⟩; have nC := Aside0.mk hc; have nX := Aside0.mk (hk.blk (X.out) hXg (by simp)); have nY := Aside0.mk (hk.blk (Y.out) hYg (by simp)); have nR := Aside0.mk (row_keep (R.out) hk hRg); clear hc hk HC X Y R; have HC := nC; clear nC; have X := nX; clear nX; have Y := nY; clear nY; have R := nR; clear nR; (try clear hY0 hY1 fY0 fY1); have hY0 := (blk_cell Y.out 0).trans rfl; have hY1 := (blk_cell Y.out 1).trans rfl; have fY0 := blk_frozen Y.out 0; have fY1 := blk_frozen Y.out 1; (try clear hX0 hX1 fX0 fX1); have hX0 := (blk_cell X.out 0).trans rfl; have hX1 := (blk_cell X.out 1).trans rfl; have fX0 := blk_frozen X.out 0; have fX1 := blk_frozen X.out 1))
  go_wp2
  refine bodyPost_ret (results_ct rfl _ _ W.heap.size 26 _ (0, 0) _ rfl (put2_blk X.out _ _) Try.underlying26 rfl (by kernel_rfl)) rfl ?_
  exact ⟨_, l, own, _, rfl, ⟨Kd.R_lower (row_far (row_far R.out (p := ⟨W.heap.size, 0, none⟩) (by simp only; omega) _) (p := ⟨W.heap.size, 1, none⟩) (by simp only; omega) _) (by omega), by omega⟩, below_set (below_set (below_step HW.out HC.out.base) (Nat.le_refl _)) (Nat.le_refl _)⟩
set_option maxRecDepth 100000 in
set_option maxHeartbeats 8000000 in
theorem DrawEvenSplit_any {W : World} {v : Value} {l0 : List Int} (h : Rb W v l0) : Calls Try.prog 47 #[v] W (DrawGP W) := by
  obtain ⟨A, c, rfl, hcl, hr, hx⟩ := h
  have hu := Try.underlying26
  have huc := Try.underlying56
  have HW := Aside0.mk (below_alloc (Below.refl W.heap.size W) (.cells #[.slice none 0 0, .bool false] 26))
  have X := Aside0.mk (blk_new W (.cells #[.slice none 0 0, .bool false] 26))
  have HR0 := Aside0.mk (Kd.C_alloc hr (.cells #[.slice none 0 0, .bool false] 26))
  have HXX := Aside0.mk hx
  clear hr hx hcl
  go_enter Try.func47, Try.ntmps47
  go_upto_region 1 with (fail)
  generalize W.alloc (.cells #[.slice none 0 0, .bool false] 26) = w1 at *
  have HC := Aside0.mk (Cur.new w1 A c l0 HR0.out HXX.out)
  have hXg := Nat.ne_of_lt (blk_lt X.out)
  have hXl := blk_lt X.out
  have hRg : w1.heap.size < (w1.alloc (Obj.cells #[Value.slice A l0.length c, Value.int IntKind.i64 0, Value.int IntKind.u64 0] 56)).heap.size := by simp
  go_upto_region 2 with (fail)
  have nX := Aside0.mk (blk_alloc X.out (.cells #[.slice A l0.length c, .int .i64 0, .int .u64 0] 56))
  clear X
  have X := nX
  clear nX
  generalize World.alloc w1 (.cells #[.slice A l0.length c, .int .i64 0, .int .u64 0] 56) = w1s at *
  go_wp2_with (go_at_call 33; (with_reducible refine (graph_any _ _ HC.out (by omega) (by omega) (by omega)).mono ?_); rintro e w3 ⟨z, l, own, rfl, hr, hll, hc, hk⟩; obtain ⟨A2, c2, rfl⟩ := Kd.R_slice hr; have nX := Aside0.mk (hk.blk X.out hXg (by simp)); have R := Aside0.mk hr; have hW3 := blk_lt X.out; clear HC X hk hr; have HC := Aside0.mk hc; have X := nX; clear hc nX; (try clear hX0 hX1 fX0 fX1); have hX0 := (blk_cell X.out 0).trans rfl; have hX1 := (blk_cell X.out 1).trans rfl; have fX0 := blk_frozen X.out 0; have fX1 := blk_frozen X.out 1)
  go_wp2
  refine bodyPost_ret (results_cell_row rfl _ _ W.heap.size 26 _ (0, 0) _ rfl (put2_blk X.out _ _) Try.underlying26 rfl (by kernel_rfl)) rfl ?_
  exact ⟨_, l, own, rfl, ⟨Kd.R_lower (row_far (row_far R.out (p := ⟨W.heap.size, 0, none⟩) (by simp only; omega) _) (p := ⟨W.heap.size, 1, none⟩) (by simp only; omega) _) (by omega), by omega⟩, below_set (below_set (below_step HW.out HC.out.base) (Nat.le_refl _)) (Nat.le_refl _)⟩
set_option maxRecDepth 100000 in
set_option maxHeartbeats 8000000 in
theorem DrawCutOf_any {W : World} {v : Value} {l0 : List Int} (h : Rb W v l0) : Calls Try.prog 5 #[v] W (DrawGSP W) := by
  have hu := Try.underlying26
  have HW := Aside0.mk (below_alloc (Below.refl W.heap.size W) (.cells #[.slice none 0 0, .bool false] 26))
  have X := Aside0.mk (blk_new W (.cells #[.slice none 0 0, .bool false] 26))
  have H := Aside0.mk (h.below HW.out)
  obtain ⟨A, c, rfl, _⟩ := h
  go_enter Try.func5, Try.ntmps5
  go_upto_region 1 with (fail)
  generalize W.alloc (.cells #[.slice none 0 0, .bool false] 26) = w1 at *
  have hXl := blk_lt X.out
  go_wp2_with (go_at_call 24; (with_reducible refine (DrawDegreesWithin_any H.out).mono ?_); rintro e w2 ⟨u, l, own, a, rfl, hr, hb⟩; obtain ⟨A2, c2, rfl⟩ := hr.slice; have R := Aside0.mk hr; have nX := Aside0.mk (blk_below X.out hb); have nW := Aside0.mk (below_step HW.out hb); clear hr hb X HW; have X := nX; have HW := nW; clear nX nW; (try clear hX0 hX1 fX0 fX1); have hX0 := (blk_cell X.out 0).trans rfl; have hX1 := (blk_cell X.out 1).trans rfl; have fX0 := blk_frozen X.out 0; have fX1 := blk_frozen X.out 1)
  refine bodyPost_ret (results_ct rfl _ _ W.heap.size 26 _ (0, 0) _ rfl (put2_blk X.out _ _) Try.underlying26 rfl (by kernel_rfl)) rfl ?_
  exact ⟨_, l, own, _, rfl, ⟨Kd.R_lower (row_far (row_far R.out.1 (p := ⟨W.heap.size, 0, none⟩) hXl _) (p := ⟨W.heap.size, 1, none⟩) hXl _) (Nat.le_of_lt hXl), R.out.2⟩, below_set (below_set HW.out (Nat.le_refl _)) (Nat.le_refl _)⟩
set_option maxRecDepth 100000 in
set_option maxHeartbeats 8000000 in
theorem DrawCountEvenEdges_any {W : World} {v : Value} {l0 : List Int} (h : Rb W v l0) : Calls Try.prog 19 #[v] W (DrawGP W) := by
  have hu := Try.underlying26
  have HW := Aside0.mk (below_alloc (Below.refl W.heap.size W) (.cells #[.slice none 0 0, .bool false] 26))
  have X := Aside0.mk (blk_new W (.cells #[.slice none 0 0, .bool false] 26))
  have H := Aside0.mk (h.below HW.out)
  obtain ⟨A, c, rfl, _⟩ := h
  go_enter Try.func19, Try.ntmps19
  go_upto_region 1 with (fail)
  generalize W.alloc (.cells #[.slice none 0 0, .bool false] 26) = w1 at *
  have hXl := blk_lt X.out
  go_wp2_with (go_at_call 47; (with_reducible refine (DrawEvenSplit_any H.out).mono ?_); rintro e w2 ⟨u, l, own, rfl, hr, hb⟩; obtain ⟨A2, c2, rfl⟩ := hr.slice; have R := Aside0.mk hr; have nX := Aside0.mk (blk_below X.out hb); have nW := Aside0.mk (below_step HW.out hb); clear hr hb X HW; have X := nX; have HW := nW; clear nX nW; (try clear hX0 hX1 fX0 fX1); have hX0 := (blk_cell X.out 0).trans rfl; have hX1 := (blk_cell X.out 1).trans rfl; have fX0 := blk_frozen X.out 0; have fX1 := blk_frozen X.out 1)
  refine bodyPost_ret (results_cell_row rfl _ _ W.heap.size 26 _ (0, 0) _ rfl (put2_blk X.out _ _) Try.underlying26 rfl (by kernel_rfl)) rfl ?_
  exact ⟨_, l, own, rfl, ⟨Kd.R_lower (row_far (row_far R.out.1 (p := ⟨W.heap.size, 0, none⟩) hXl _) (p := ⟨W.heap.size, 1, none⟩) hXl _) (Nat.le_of_lt hXl), R.out.2⟩, below_set (below_set HW.out (Nat.le_refl _)) (Nat.le_refl _)⟩
set_option maxRecDepth 100000 in
set_option maxHeartbeats 8000000 in
theorem DrawCountEvenCuts_any {W : World} {v : Value} {l0 : List Int} (h : Rb W v l0) : Calls Try.prog 16 #[v] W (DrawGP W) := by
  obtain ⟨A, c, rfl, hcl, hr, hx⟩ := h
  have hu := Try.underlying26
  have huc := Try.underlying56
  have HW := Aside0.mk (below_alloc (Below.refl W.heap.size W) (.cells #[.slice none 0 0, .bool false] 26))
  have X := Aside0.mk (blk_new W (.cells #[.slice none 0 0, .bool false] 26))
  have HR0 := Aside0.mk (Kd.C_alloc hr (.cells #[.slice none 0 0, .bool false] 26))
  have HXX := Aside0.mk hx
  clear hr hx hcl
  go_enter Try.func16, Try.ntmps16
  go_upto_region 1 with (fail)
  generalize W.alloc (.cells #[.slice none 0 0, .bool false] 26) = w1 at *
  have HC := Aside0.mk (Cur.new w1 A c l0 HR0.out HXX.out)
  have hXg := Nat.ne_of_lt (blk_lt X.out)
  have hXl := blk_lt X.out
  have hRg : w1.heap.size < (w1.alloc (Obj.cells #[Value.slice A l0.length c, Value.int IntKind.i64 0, Value.int IntKind.u64 0] 56)).heap.size := by simp
  go_upto_region 2 with (fail)
  have nX := Aside0.mk (blk_alloc X.out (.cells #[.slice A l0.length c, .int .i64 0, .int .u64 0] 56))
  clear X
  have X := nX
  clear nX
  generalize World.alloc w1 (.cells #[.slice A l0.length c, .int .i64 0, .int .u64 0] 56) = w1s at *
  go_wp2_with (first
    | (go_at_call 43; (refine (among_lit _ (HC.out.alloc _) (by omega) (C_lit _ [_, _, _, _] (by simp)) (by have h := HC.out.lt; omega) rfl (by simp)).mono ?_); rintro e w2 ⟨x2, rfl, hx, hc, hk⟩; have hx2 : 1 ≤ x2 ∧ x2 ≤ 16 := (by have h := hx.out; simp at h; omega); have nHC := Aside0.mk hc; have nX := Aside0.mk (hk.blk (blk_alloc X.out _) hXg (by simp)); (try clear hX0 hX1 fX0 fX1); (try clear hb); (try clear ho); (try clear hc hk); clear HC X; have HC := nHC; clear nHC; have X := nX; clear nX; (try clear hX0 hX1 fX0 fX1); have hX0 := (blk_cell X.out 0).trans rfl; have hX1 := (blk_cell X.out 1).trans rfl; have fX0 := blk_frozen X.out 0; have fX1 := blk_frozen X.out 1)
    | (go_at_call 33; (with_reducible refine (graph_any _ _ HC.out (by omega) (by omega) (by omega)).mono ?_); rintro e w3 ⟨z, l, own, rfl, hr, hll, hc, hk⟩; obtain ⟨A2, c2, rfl⟩ := Kd.R_slice hr; have nX := Aside0.mk (hk.blk X.out hXg (by simp)); have R := Aside0.mk hr; have hW3 := blk_lt X.out; clear HC X hk hr; have HC := Aside0.mk hc; have X := nX; clear hc nX; (try clear hX0 hX1 fX0 fX1); have hX0 := (blk_cell X.out 0).trans rfl; have hX1 := (blk_cell X.out 1).trans rfl; have fX0 := blk_frozen X.out 0; have fX1 := blk_frozen X.out 1))
  go_wp2
  refine bodyPost_ret (results_cell_row rfl _ _ W.heap.size 26 _ (0, 0) _ rfl (put2_blk X.out _ _) Try.underlying26 rfl (by kernel_rfl)) rfl ?_
  exact ⟨_, l, own, rfl, ⟨Kd.R_lower (row_far (row_far R.out (p := ⟨W.heap.size, 0, none⟩) (by simp only; omega) _) (p := ⟨W.heap.size, 1, none⟩) (by simp only; omega) _) (by omega), by omega⟩, below_set (below_set (below_step HW.out HC.out.base) (Nat.le_refl _)) (Nat.le_refl _)⟩
end Go.Proofs.Ytlohlngmagpepaa.Draw
