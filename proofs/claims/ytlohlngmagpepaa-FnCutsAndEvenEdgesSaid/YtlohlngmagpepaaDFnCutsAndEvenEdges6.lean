/- What is drawn for FnCutsAndEvenEdges: within bounds, whatever it is. -/
import Derived.Test.YtlohlngmagpepaaPFnCutsAndEvenEdgesx
import Derived.Test.YtlohlngmagpepaaQFnCutsAndEvenEdges0
import Derived.Test.YtlohlngmagpepaaQFnCutsAndEvenEdges1
import Derived.Test.YtlohlngmagpepaaM1
import Derived.Test.YtlohlngmagpepaaM44
import Derived.WalkKit
import Derived.RowKit3
import Derived.Deep.QuietTactic
import Derived.BigQuiet
import Derived.Deep.DeepCutAuto
import Derived.Deep.CutBlock
import Derived.Deep.LoopGhost
import Derived.Outline
import Derived.Deep.DeepFit
import Derived.Test.YtlohlngmagpepaaDFnCutsAndEvenEdges0
import Derived.Test.YtlohlngmagpepaaDFnCutsAndEvenEdges2
import Derived.Test.YtlohlngmagpepaaDFnCutsAndEvenEdges5
import Derived.Maps.OwnSet
import Derived.Maps.Views
import Derived.Maps.OwnOps
import Derived.WideKeyArr
import Derived.Laws.Cover3
import Derived.Deep.RegionHeld3
namespace Go.Proofs.Ytlohlngmagpepaa.Draw
open Go.RowKit Go.Proofs.Ytlohlngmagpepaa.PFnCutsAndEvenEdges Go.Proofs.YtlohlngmagpepaaW.PrintWords Go.Proofs.YtlohlngmagpepaaW.PrintLast Go.Proofs.YtlohlngmagpepaaW.PrintMore Go.Proofs.YtlohlngmagpepaaM Go.Proofs.Ytlohlngmagpepaa.Pure
attribute [local go_sem] max2_int min2_int max_two min_two max_three min_three max_four min_four
set_option linter.unusedVariables false
set_option linter.unusedSimpArgs false
variable {w0 w w1 W : World} {g : Nat} {a : Int}
theorem isSet_rd {W : World} {v : Value} {l : List Int} (own : Bool) (s : Int) {b : Bool} (h : Rd W v l) (hb : boardOk l s = b) : Calls Try.prog 25 #[.agg #[v, .bool own], .slice (some ⟨W.heap.size, 0, none⟩) 1 1] (W.alloc (.cells #[.int .i64 s] 3 (0, 0))) fun e W' => e = .returned (.bool b) ∧ Below W.heap.size W W' := by
  obtain ⟨A, c, rfl, hc, hC, hl⟩ := h.alloc (.cells #[.int .i64 s] 3 (0, 0))
  obtain ⟨K, hK⟩ := ev_get (impl_isSet.ev l own [s])
  have hL : Kd.C (Kd.int .i64) (W.alloc (.cells #[.int .i64 s] 3 (0, 0))) (some ⟨W.heap.size, 0, none⟩) 1 [s] := C_lit W [s] (by simp)
  refine (impl_isSet.calls K A c l own (some ⟨W.heap.size, 0, none⟩) 1 [s] b _ hC hc hL (Nat.le_refl _) ((hK K (Nat.le_refl _)).trans ?_)).mono fun _ _ ⟨he, h2⟩ => ⟨he, below_step (below_alloc (Below.refl _ _) _) h2⟩
  rw [← hb]
  unfold boardOk
  simp
theorem has_rd (a t : Nat) (ha : a < 65536) {q : Bool} (hq : a.testBit t = q) : ∀ w, Calls Try.prog 27 #[.int .i64 (a : Int), .int .i64 (t : Int)] w fun r w' => r = .returned (.bool q) ∧ ∃ n, w' = w.drewN n := fun w =>
  (impl_has.calls (a : Int) (t : Int) q w ((impl_has.eq (a : Int) (t : Int) (by omega) (by omega) (by omega)).trans (by unfold bit; rw [Int.toNat_natCast, Int.toNat_natCast, hq]))).mono fun _ _ ⟨he, hd⟩ => ⟨he, hd.out⟩
def RdE (W : World) (v : Value) (E : List (List Int)) : Prop := ∃ A c, v = .slice A E.length c ∧ E.length ≤ c ∧ Kd.C (Kd.slice 3 (Kd.int .i64)) W A E.length E ∧ E.length ≤ 1048576
theorem RdE.below {W W' : World} {v : Value} {E : List (List Int)} (h : RdE W v E) (hb : Below W.heap.size W W') : RdE W' v E := by obtain ⟨A, c, e, hc, hr, hl⟩ := h; exact ⟨A, c, e, hc, Kd.C_below hr hb, hl⟩
theorem RdE.alloc {W : World} {v : Value} {E : List (List Int)} (h : RdE W v E) (o : Obj) : RdE (W.alloc o) v E := h.below (below_alloc (Below.refl _ _) o)
theorem RdE.slice {W : World} {v : Value} {E : List (List Int)} (h : RdE W v E) : ∃ A c, v = .slice A E.length c := by obtain ⟨A, c, e, _⟩ := h; exact ⟨A, c, e⟩
theorem RdE.len {W : World} {v : Value} {E : List (List Int)} (h : RdE W v E) : E.length ≤ 1048576 := by obtain ⟨A, c, e, hc, hr, hl⟩ := h; exact hl
theorem RdE.nil (W : World) : RdE W (.slice none 0 0) [] := ⟨none, 0, rfl, Nat.le_refl _, Kd.C_nil _ _, by simp⟩
theorem RdE.ofN {W : World} {e base : Nat} {ok : Nat → Prop} {v : Value} {E : List (List Int)} (h : Kd.N (Kd.slice 3 (Kd.int .i64)) e W base ok v E) (hl : E.length ≤ 1048576) : RdE W v E := by
  obtain ⟨A, c, e, hc, hr⟩ := Kd.N_reads h
  exact ⟨A, c, e, hc, hr, hl⟩
theorem RdE.ofS {W : World} {e base : Nat} {ok : Nat → Prop} {v : Value} {E : List (List Int)} (h : Kd.S (Kd.slice 3 (Kd.int .i64)) e W base ok v E) (hl : E.length ≤ 1048576) : RdE W v E := RdE.ofN (Kd.S_N h) hl
theorem RdE.cells {W : World} {A : Option Addr} {n c : Nat} {E : List (List Int)} (h : RdE W (.slice A n c) E) : Kd.C (Kd.slice 3 (Kd.int .i64)) W A E.length E ∧ E.length ≤ c ∧ n = E.length := by
  obtain ⟨B, c', e, hc, hr, _⟩ := h
  injection e with e1 e2 e3
  subst e1 e2 e3
  exact ⟨hr, hc, rfl⟩
theorem cutR_len {l : List Int} {s : Int} {r : List (List Int)} {ok : Bool} (hr : cutR l s = (r, ok)) : r.length ≤ 1048576 := by
  unfold cutR at hr
  split at hr
  · next h =>
    obtain ⟨hG, _⟩ := boardOk_of h
    have he := edges_len hG
    injection hr with e _
    rw [← e]
    have := List.length_filter_le (endsP (cutP s.toNat)) (edgesOf l)
    unfold cutOf
    omega
  · injection hr with e _
    rw [← e]
    simp
theorem edge_foot {W : World} {A : Option Addr} {n : Nat} {E : List (List Int)} {ok : Nat → Prop} (h : Kd.F (Kd.slice 3 (Kd.int .i64)) W ok A n E) {k : Nat} (hk : k < n) {x y : Int} (hxy : E.getD k [] = [x, y]) :
    ∃ ad ae c, A = some ad ∧ W.cell? (ad.add k) = some (.slice (some ae) 2 c) ∧ W.cell? ae = some (.int .i64 x) ∧ W.cell? (ae.add 1) = some (.int .i64 y) ∧ Kd.FK (Kd.slice 3 (Kd.int .i64)) W ok [x, y] [.slice (some ae) 2 c] := by
  obtain ⟨ad, cs, e, _, hF, hcell, _⟩ := Kd.F_get h [] (k : Int) (by omega) (by omega)
  rw [Int.toNat_natCast, hxy] at hF
  obtain ⟨B, c, e2, hl, hC⟩ := Kd.FK_now hF
  subst e2
  have h0 := hcell 0 _ rfl
  rw [Int.toNat_natCast, show k * (Kd.slice 3 (Kd.int .i64)).sz + 0 = k from Nat.mul_one k] at h0
  obtain ⟨ae, e3, h1⟩ := Kd.at_int hC 0 (by omega) (by simp)
  subst e3
  obtain ⟨ae2, e4, h2⟩ := Kd.at_int hC 1 (by omega) (by simp)
  injection e4 with e4
  subst e4
  exact ⟨ad, _, c, e, h0, by rw [← add_zero_ ae]; exact h1, h2, hF⟩
theorem cut_take {l : List Int} (P : Nat → Nat → Bool) {k x y : Nat} (hk : k < (edgesOf l).length) (hxy : (edgesOf l)[k] = [(x : Int), (y : Int)]) : ((edgesOf l).take (k + 1)).filter (endsP P) = ((edgesOf l).take k).filter (endsP P) ++ (if P x y = true then [[(x : Int), (y : Int)]] else []) := by
  rw [List.take_succ_eq_append_getElem hk, List.filter_append, hxy, List.filter_cons, List.filter_nil, ends_pair]
set_option maxRecDepth 100000 in
set_option maxHeartbeats 4000000 in
theorem CutOf_all {W : World} {v : Value} {l : List Int} (own : Bool) {s : Int} {r : List (List Int)} {ok : Bool} (h : Rd W v l) (hr : cutR l s = (r, ok)) :
    Calls Try.prog 6 #[.agg #[v, .bool own], .int .i64 s] W fun e W' => ∃ u, e = .returned (.tuple #[u, .bool ok]) ∧ RdE W' u r ∧ Below W.heap.size W W' := by
  have hu := Try.underlying26
  have hrl := cutR_len hr
  obtain ⟨A, c, rfl⟩ := h.slice
  have HB := Aside0.mk (below_alloc (Below.refl W.heap.size W) (.cells #[.slice A l.length c, .bool own] 26 (0, 0)))
  have X := Aside0.mk (blk_new W (.cells #[.slice A l.length c, .bool own] 26 (0, 0)))
  have R := Aside0.mk (h.alloc (.cells #[.slice A l.length c, .bool own] 26 (0, 0)))
  have HRL := Aside0.mk hrl
  unfold cutR at hr
  cases hok : boardOk l s
  · rw [hok, if_neg (by decide)] at hr
    injection hr with e1 e2
    subst e1 e2
    have HK := Aside0.mk hok
    clear h hok hrl HRL
    go_enter Try.func6, Try.ntmps6
    go_upto_region 1 with (fail)
    generalize W.alloc (.cells #[.slice A l.length c, .bool own] 26 (0, 0)) = w1 at *
    (try clear hX0 hX1 fX0 fX1); have hX0 := (blk_cell X.out 0).trans rfl; have hX1 := (blk_cell X.out 1).trans rfl; have fX0 := blk_frozen X.out 0; have fX1 := blk_frozen X.out 1
    go_wp2_with (go_at_call 25; (with_reducible refine (isSet_rd own s R.out HK.out).mono ?_); rintro e w2 ⟨rfl, hb⟩; have nB := Aside0.mk (below_step HB.out hb); clear X HB R hb hX0 hX1 fX0 fX1; have HB := nB; clear nB)
    go_ret2
    exact ⟨_, rfl, RdE.nil _, HB.out⟩
  obtain ⟨hG, hs⟩ := boardOk_of hok
  obtain ⟨h0, h1, h2⟩ := inSet_lt hs
  have hc := pow_cast l.length
  rw [hok, if_pos rfl] at hr
  injection hr with e1 e2
  subst e1 e2
  obtain ⟨s, rfl⟩ := Int.eq_ofNat_of_zero_le h0
  rw [Int.toNat_natCast] at HRL ⊢
  have HK := Aside0.mk hok
  have HG := Aside0.mk hG
  have HR := Aside0.mk h
  have hg1 := hG.top
  have hel := edges_len hG
  have hs16 : s < 65536 := by
    have : (2 : Nat) ^ l.length ≤ 2 ^ 16 := Nat.pow_le_pow_right (by decide) hg1
    omega
  have HE := Aside0.mk (ev_get (impl_Graph_edges.ev l own hG))
  clear h hok hG hs h0 h1 h2 hc hrl
  go_enter Try.func6, Try.ntmps6
  go_upto_region 1 with (fail)
  generalize W.alloc (.cells #[.slice A l.length c, .bool own] 26 (0, 0)) = w1 at *
  (try clear hX0 hX1 fX0 fX1); have hX0 := (blk_cell X.out 0).trans rfl; have hX1 := (blk_cell X.out 1).trans rfl; have fX0 := blk_frozen X.out 0; have fX1 := blk_frozen X.out 1
  go_upto_region 3 with (go_at_call 25; (with_reducible refine (isSet_rd own (s : Int) R.out HK.out).mono ?_); rintro e w2 ⟨rfl, hb⟩; have nX := Aside0.mk (blk_below X.out hb); have nR := Aside0.mk (R.out.below hb); have nB := Aside0.mk (below_step HB.out hb); clear X HB R hb hX0 hX1 fX0 fX1; have X := nX; have R := nR; have HB := nB; clear nX nR nB; (try clear hX0 hX1 fX0 fX1); have hX0 := (blk_cell X.out 0).trans rfl; have hX1 := (blk_cell X.out 1).trans rfl; have fX0 := blk_frozen X.out 0; have fX1 := blk_frozen X.out 1)
  obtain ⟨K, hK⟩ := HE.out
  have hCC : ∀ w3, Below W.heap.size W w3 → Calls Try.prog 26 #[.agg #[.slice A l.length c, .bool own]] w3 fun e w' => ∃ v0 : Value, e = .returned v0 ∧ Kd.S (Kd.slice 3 (Kd.int .i64)) 24 w' w3.heap.size (fun _ => True) v0 (edgesOf l) ∧ Below w3.heap.size w3 w' := fun w3 hb => by
    obtain ⟨A', c', e', hc', hC', _⟩ := HR.out.below hb
    injection e' with e1 e2 e3
    subst e1 e3
    exact impl_Graph_edges.calls K _ _ l own _ w3 hC' hc' (hK K (Nat.le_refl _))
  have HC := Aside0.mk hCC
  have hpairs : ∀ k, (hk : k < (edgesOf l).length) → ∃ x y : Nat, (edgesOf l)[k] = [(x : Int), (y : Int)] ∧ x < 16 ∧ y < 16 := fun k hk => by
    obtain ⟨x, y, hxy, _, hlt, hy, _⟩ := edgesFrom_pairs l l.length 0 _ (List.getElem_mem (l := edgesOf l) hk)
    exact ⟨x, y, hxy, by omega, by omega⟩
  have HP := Aside0.mk hpairs
  have HT := Aside0.mk (fun k (hk : k < (edgesOf l).length) x y => cut_take (l := l) (cutP s) (k := k) (x := x) (y := y) hk)
  have HALL := Aside0.mk (show cutOf l s = ((edgesOf l).take (edgesOf l).length).filter (endsP (cutP s)) by unfold cutOf; rw [List.take_length])
  clear hCC hK HE hpairs HG hg1
  generalize edgesOf l = E at *
  go_upto_region 5 with (first
    | ((with_reducible refine gate_dst (N := 14) rfl ?_); refine Kd.N_lit (Kd.slice 3 (Kd.int .i64)) _ 24 ?hg (N' := 14) ?hd (xs := ([] : List (List Int))) (inner := []) (ok := fun _ => True) (okp := fun _ => True) ?hr ?hp (fun _ hk => hk) trivial (Below.refl _ _) (Nat.le_refl _) (by simp) ?_; (case hd => rfl); (case hg => rfl); (case hr => first | (go_simp; done) | (go_simp; rfl)); (case hp => exact (Reps.none _ _)); intro v6 w3 hv hb _ _; have HV := Aside0.mk (Kd.N_lower hv (Below.size HB.out)); have nX := Aside0.mk (blk_below X.out hb); have nB := Aside0.mk (below_step HB.out hb); clear X HB R hb hX0 hX1 fX0 fX1 hv; have X := nX; have HB := nB; clear nX nB; (try clear hX0 hX1 fX0 fX1); have hX0 := (blk_cell X.out 0).trans rfl; have hX1 := (blk_cell X.out 1).trans rfl; have fX0 := blk_frozen X.out 0; have fX1 := blk_frozen X.out 1)
    | (go_at_call 26; (with_reducible refine (HC.out _ HB.out).mono ?_); rintro e w4 ⟨v0, rfl, hs, hb⟩; obtain ⟨Ae, ce, rfl, hce, _⟩ := Kd.R_reads (Kd.S_R hs); have HE := Aside0.mk (Kd.R_F (Kd.R_mono (Kd.R_bound (Kd.S_R hs)) (ok' := fun k => True ∧ some k ≠ v6.ownBlock) (fun k hk => ⟨trivial, fun e => by have h1 := Kd.N_lt HV.out k e.symm; have h2 := hk.2.1; omega⟩))); have nV := Aside0.mk (Kd.N_below HV.out hb); have nB := Aside0.mk (below_step HB.out hb); clear X HB hb hX0 hX1 fX0 fX1 hs hce HC HV; have HB := nB; have HV := nV; clear nB nV))
  go_loopw [6, 18] (fun v6 v18 wr => ∃ k : Nat, k ≤ E.length ∧ v18 = .int .i64 (k : Int) ∧ Aside0 (Kd.N (Kd.slice 3 (Kd.int .i64)) 24 wr W.heap.size (fun _ => True) v6 ((E.take k).filter (endsP (cutP s)))) ∧ Aside0 (Kd.F (Kd.slice 3 (Kd.int .i64)) wr (fun k => True ∧ some k ≠ v6.ownBlock) Ae E.length E) ∧ Aside0 (Below W.heap.size W wr)) (fun _ v18 _ => E.length - (intOf v18).toNat)
  case atStart => exact ⟨0, Nat.zero_le _, rfl, HV, HE, HB⟩
  case round =>
    clear HE HB HV
    obtain ⟨k, hk, rfl, HV, HE, HB⟩ := hrel
    by_cases hlt : k < E.length
    · obtain ⟨x, y, hxy, hx16, hy16⟩ := HP.out k hlt
      have htk := HT.out k hlt x y hxy
      obtain ⟨ad, ae, c2, rfl, hc1, hc2, hc3, hfk⟩ := edge_foot HE.out hlt (x := (x : Int)) (y := (y : Int)) (by rw [List.getD_eq_getElem?_getD, List.getElem?_eq_getElem hlt, Option.getD_some, hxy])
      have HFK := Aside0.mk hfk
      have hc3 : wr.cell? ⟨ae.block, ae.off + 1, none⟩ = some (.int .i64 (y : Int)) := hc3
      obtain ⟨q, hq⟩ : ∃ q, s.testBit x = q := ⟨_, rfl⟩
      obtain ⟨q2, hq2⟩ : ∃ q, s.testBit y = q := ⟨_, rfl⟩
      have htk2 : ((E.take (k + 1)).filter (endsP (cutP s))) = (E.take k).filter (endsP (cutP s)) ++ (if (q != q2) = true then [[(x : Int), (y : Int)]] else []) := by
        rw [htk]
        unfold cutP
        rw [hq, hq2]
      have HTK := Aside0.mk htk2
      have H1 := Aside0.mk hq
      have H2 := Aside0.mk hq2
      have hol := List.length_filter_le (endsP (cutP s)) (E.take k)
      have hol2 := List.length_take_le k E
      have hout : ((E.take k).filter (endsP (cutP s))).length ≤ 1000 := by omega
      clear hq hq2 hxy htk htk2 hfk hol hol2
      go_upto_region 7 with (fail)
      generalize hgo : (E.take k).filter (endsP (cutP s)) = out at *
      clear hgo
      cases q <;> cases q2
      all_goals
        go_region_held3 (fun w' => w'.cell? ae = some (.int .i64 (x : Int)) ∧ w'.cell? ⟨ae.block, ae.off + 1, none⟩ = some (.int .i64 (y : Int))) (first | go_keep) (first
          | (go_at_call 27; (with_reducible refine (has_rd s x hs16 H1.out _).mono ?_); rintro r w4 ⟨rfl, n1, rfl⟩)
          | (go_at_call 27; (with_reducible refine (has_rd s y hs16 H2.out _).mono ?_); rintro r w4 ⟨rfl, n1, rfl⟩))
        go_wp2_with (((with_reducible refine gate_builtin (b := .append) (xs := #[.tmp 33, .tmp 35]) rfl ?_); at_builtin; refine Kd.N_append (Kd.slice 3 (Kd.int .i64)) (w0 := W) W.heap.size rfl (.tmp 33) (.tmp 35) 29 24 (.slice none 0 0) 24 rfl Try.underlying29 info24 rfl (by decide) (by omega) u6 out [(x : Int), (y : Int)] [.slice (some ae) 2 c2] (fun _ => True) (fun k => True ∧ some k ≠ u6.ownBlock) rfl (by first | (go_simp; done) | (go_simp; rfl)) ?aP (fun k hk => hk) (fun _ _ => trivial) ?aV ?aB ?aS ?aL ?_; (case aP => (repeat (first | exact HFK.out | refine Kd.FK_below ?_ (below_drew1 (Below.refl _ _)) | refine Kd.FK_below ?_ (pw_below_drewN (Below.refl _ _) _)))); (case aV => (repeat (first | exact HV.out | refine Kd.N_drew ?_ | refine Kd.N_drewN ?_ _))); (case aB => (repeat (first | exact HB.out | refine below_drew1 ?_ | refine pw_below_drewN ?_ _))); (case aS => exact Below.size (by (repeat (first | exact HB.out | refine below_drew1 ?_ | refine pw_below_drewN ?_ _)) : Below W.heap.size W _)); (case aL => omega); intro v5 w5 ho hb hg hat; have HV2 := Aside0.mk ho; have HB2 := Aside0.mk hb; have HE2 := Aside0.mk (Kd.F_after (by (repeat (first | exact HE.out | refine Kd.F_drew ?_ | refine Kd.F_drewN ?_ _))) hg hat); clear ho hb hg hat))
        go_roundw
        case rel => first
          | exact ⟨k + 1, by omega, by go_num, ⟨by rw [HTK.out]; exact HV2.out⟩, HE2, HB2⟩
          | exact ⟨k + 1, by omega, by go_num, ⟨by rw [HTK.out, if_neg (by decide), List.append_nil]; (repeat (first | exact HV.out | refine Kd.N_drew ?_ | refine Kd.N_drewN ?_ _))⟩, ⟨by (repeat (first | exact HE.out | refine Kd.F_drew ?_ | refine Kd.F_drewN ?_ _))⟩, ⟨by (repeat (first | exact HB.out | refine below_drew1 ?_ | refine pw_below_drewN ?_ _))⟩⟩
        case measure => simp [intOf]; omega
    · obtain rfl : k = E.length := by omega
      go_wp2
      go_ret2
      exact ⟨_, rfl, RdE.ofN (by rw [HALL.out]; exact HV.out) HRL.out, HB.out⟩
section
variable {P : Program} {ops : Array Oper} {Q : Exit → Act → World → Prop} {md : Region.Mode} {S : World → Prop}
theorem H_take {i : Nat} (d : Option Tmp) {oi : Oper} {v : Value} {fuel : Nat} {listed : Array Bool} {a : Act} {w : World} (hi : ops[i]? = some oi) (hd : oi.dst = d)
    (hs : Region.noSelect ops = true) (hf : Region.free md ops listed i = true) (hr : (Region.ready md ops listed).contains i = true)
    (hQ : ∀ c a w, Q (.panic c) (a.put d v) w → Q (.panic c) a w) (hw : Region.wanted oi (yielded ops a.tmps) = true) (hy : ∀ w, S w → (execOp a.eval oi).run P w = .ok (.value v) w) (hS : S w)
    (h : wpAnyH P md ops Q S fuel (listed.setIfInBounds i true) (a.put d v) w) : wpAnyH P md ops Q S (fuel + 1) listed a w := by
  subst hd
  exact wpAnyH_take hi hs hf hr hQ (Or.inl ⟨hw, hy⟩) hS h
theorem H_skip {i : Nat} (d : Option Tmp) {oi : Oper} {fuel : Nat} {listed : Array Bool} {a : Act} {w : World} (hi : ops[i]? = some oi) (hd : oi.dst = d)
    (hs : Region.noSelect ops = true) (hf : Region.free md ops listed i = true) (hr : (Region.ready md ops listed).contains i = true)
    (hQ : ∀ c a w, Q (.panic c) (a.put d undef) w → Q (.panic c) a w) (hw : Region.wanted oi (yielded ops a.tmps) = false) (hS : S w)
    (h : wpAnyH P md ops Q S fuel (listed.setIfInBounds i true) (a.put d undef) w) : wpAnyH P md ops Q S (fuel + 1) listed a w := by
  subst hd
  exact wpAnyH_take hi hs hf hr hQ (Or.inr ⟨hw, rfl⟩) hS h
end
def Pk (x y : Int) : Value := .agg #[.int .i64 x, .int .i64 y]
def KeyL (x y : Int) : Lit := .string (keyBytes [.int .i64 x, .int .i64 y])
theorem arrKey : WideMaps.ArrKey Try.prog 62 3 2 := ⟨Try.underlying62, by kernel_rfl, by kernel_rfl, by kernel_rfl⟩
theorem arrKeyed : Maps.Keyed Try.prog 62 := Maps.Keyed.of_law arrKey.law
theorem arr_type : Try.prog.keyType 62 = true := by kernel_rfl
theorem pair_lits {x y : Int} (f : List Value → Option (List Lit)) (h1 : f [.int .i64 x] = some [.int .i64 x]) (h2 : f [.int .i64 y] = some [.int .i64 y]) : ((List.range 2).mapM fun i => f (((Pk x y).cells.toList.drop (i * 1)).take 1)).map List.flatten = some [.int .i64 x, .int .i64 y] := by
  rw [show List.range 2 = [0, 1] from rfl]
  simp [List.mapM_cons, Pk, Value.cells, h1, h2]
theorem arr_key {x y : Int} (hx : (Lit.int .i64 x).wf = true) (hy : (Lit.int .i64 y).wf = true) : keyOf Try.prog 62 (Pk x y) = some (KeyL x y) := by
  have hs : ∃ m, Try.prog.types.size + 1 = m + 2 := ⟨Try.prog.types.size - 1, by have : 1 ≤ Try.prog.types.size := by decide +kernel
                                                                                 omega⟩
  obtain ⟨m, hm⟩ := hs
  unfold keyOf
  simp only [arrKey.hu]
  rw [if_pos (by rw [arr_type]; simp [Pk, Value.formed, arrKey.hu, arrKey.size]), hm]
  have hi : ∀ z : Int, (Lit.int .i64 z).wf = true → Try.prog.keyLits (m + 1) 3 [.int .i64 z] = some [.int .i64 z] := fun z hz => by
    simp [Program.keyLits, Try.underlying3, hz]
  rw [show Try.prog.keyLits (m + 2) 62 (Pk x y).cells.toList = some [.int .i64 x, .int .i64 y] from by
    rw [show m + 2 = (m + 1) + 1 from rfl]
    unfold Program.keyLits
    simp only [arrKey.hu]
    rw [if_pos (by rw [arrKey.size]; rfl), arrKey.one]
    exact pair_lits _ (hi x hx) (hi y hy)]
  rfl
theorem arr_inj {x y x' y' : Int} (hx : (Lit.int .i64 x).wf = true) (hy : (Lit.int .i64 y).wf = true) (hx' : (Lit.int .i64 x').wf = true) (hy' : (Lit.int .i64 y').wf = true) (h : KeyL x y = KeyL x' y') : x = x' ∧ y = y' := by
  have h1 := arr_key hx hy
  have h2 := arr_key hx' hy'
  rw [← h] at h2
  have h3 := arrKeyed.inj h1 h2
  unfold Pk at h3
  injection h3 with h3
  have h4 : [Value.int .i64 x, Value.int .i64 y] = [Value.int .i64 x', Value.int .i64 y'] := congrArg Array.toList h3
  injection h4 with h5 h6
  injection h6 with h6 _
  injection h5 with _ h5
  injection h6 with _ h6
  exact ⟨h5, h6⟩
theorem MetP.bool_inv {P : Program} {e : TypeId} (he : P.underlying e = some .bool) {v : Value} {z : DataW Unit × List MemPlace} (h : plainElem P e v = some z) : ∃ x, v = .bool x ∧ z = (.lit (.bool x), []) := by
  unfold plainElem at h
  rw [he] at h
  cases v <;> simp at h
  exact ⟨_, rfl, h.symm⟩
def MetP (W : World) (b : Nat) (out : List (List Int)) : Prop :=
  ∃ (n : Nat) (D : DataW Unit), W.ownsMap Try.prog 62 (plainElem Try.prog 4) b n D ∧ n ≤ out.length ∧ ∀ x y, (Lit.int .i64 x).wf = true → (Lit.int .i64 y).wf = true → D.atKey (KeyL x y) (.lit (.bool false)) = .lit (.bool (out.contains [x, y]))
theorem MetP.made (W : World) : MetP (W.alloc (.map #[] 0)) W.heap.size [] := ⟨0, _, World.ownsMap_made W _ _ _, Nat.le_refl _, fun _ _ _ _ => rfl⟩
theorem MetP.lt {W : World} {b : Nat} {out : List (List Int)} (h : MetP W b out) : b < W.heap.size := by
  obtain ⟨n, D, ho, _⟩ := h
  exact ho.lt
theorem MetP.kept {W W2 : World} {b : Nat} {out : List (List Int)} {row : Option Nat} (h : MetP W b out) (hg : W.grownBy W2 row) (hne : some b ≠ row) : MetP W2 b out := by
  obtain ⟨n, D, ho, h2⟩ := h
  exact ⟨n, D, ho.kept hg hne, h2⟩
theorem MetP.below {W W2 : World} {b : Nat} {out : List (List Int)} (h : MetP W b out) (hb : Below W.heap.size W W2) : MetP W2 b out := h.kept (grown_of_below hb none) (by simp)
theorem MetP.put {W2 : World} {b n : Nat} {out : List (List Int)} {D : DataW Unit} (hm : Go.Maps.IsMap D) (hn : n ≤ out.length) (hat : ∀ x y, (Lit.int .i64 x).wf = true → (Lit.int .i64 y).wf = true → D.atKey (KeyL x y) (.lit (.bool false)) = .lit (.bool (out.contains [x, y])))
    {t u : Int} (hw : (Lit.int .i64 t).wf = true) (hu : (Lit.int .i64 u).wf = true) (ho : W2.ownsMap Try.prog 62 (plainElem Try.prog 4) b (n + 1) (D.put (KeyL t u) (.lit (.bool true)))) : MetP W2 b (out ++ [[t, u]]) := by
  refine ⟨n + 1, _, ho, by simp; omega, fun x y hx hy => ?_⟩
  by_cases e : x = t ∧ y = u
  · obtain ⟨rfl, rfl⟩ := e
    rw [Go.Maps.atKey_put_same hm (arrKeyed.key (arr_key hw hu))]
    simp
  · rw [Go.Maps.atKey_put_other (fun h => e (by
      obtain ⟨h1, h2⟩ := arr_inj hw hu hx hy (by first | exact h | exact h.symm)
      exact ⟨h1.symm, h2.symm⟩)), hat x y hx hy]
    congr 2
    rw [Bool.eq_iff_iff]
    simp only [List.contains_iff_mem, List.mem_append, List.mem_singleton, List.cons.injEq, and_true]
    constructor
    · exact .inl
    · rintro (h | h)
      · exact h
      · exact absurd h e
theorem MetP.look {w : World} (b : Nat) (out : List (List Int)) (h : MetP w b out) {x y : Int} (hx : (Lit.int .i64 x).wf = true) (hy : (Lit.int .i64 y).wf = true) {q : Bool} (hq : out.contains [x, y] = q) : (Instr.lookup 61 (.map (some b)) (.agg #[.int .i64 x, .int .i64 y]) false).run Try.prog w = .ok (.bool q) w := by
  obtain ⟨n, D, hown, hn, hat⟩ := h
  obtain ⟨v, ps, hrun, hv⟩ := hown.lookup arrKeyed Try.underlying61 (z := .bool false) (Try.zeroValue4 w) (plainElem_bool Try.underlying4 false) (arr_key hx hy)
  rw [hat x y hx hy, hq] at hv
  obtain ⟨z, rfl, hz⟩ := MetP.bool_inv Try.underlying4 hv
  simp only [Prod.mk.injEq, DataW.lit.injEq, Lit.bool.injEq] at hz
  obtain ⟨rfl, _⟩ := hz
  exact hrun
section
variable {w : World} {ops : Array Oper} {rest : List Oper} {o : Oper} {a : Act} {Q : Exit → Act → World → Prop}
theorem MetP.store (hg : o.guard = none) (m x v : Operand) (hop : o.op = Op.mapUpdate 61 m x v) (b : Nat) (out : List (List Int)) (hm : a.eval m = .map (some b)) (h : MetP w b out) (t u : Int) (hx : a.eval x = .agg #[.int .i64 t, .int .i64 u]) (hv : a.eval v = .bool true) (hw : (Lit.int .i64 t).wf = true) (hu : (Lit.int .i64 u).wf = true) (hl : out.length < 17592186044416)
    (hK : ∀ w', MetP w' b (out ++ [[t, u]]) → w.grownBy w' (some b) → wpList Try.prog ops Q rest (a.put o.dst undef) w') : wpList Try.prog ops Q (o :: rest) a w := by
  refine wpList_plain hg fun K' hK' => ?_
  obtain ⟨n, D, hown, hn, hat⟩ := h
  obtain ⟨w', hrun, r1, r2⟩ := hown.update arrKeyed Try.underlying61 (by unfold maxLen; omega) (arr_key hw hu) (plainElem_bool Try.underlying4 true)
  have hrun : (Instr.mapUpdate 61 (.map (some b)) (.agg #[.int .i64 t, .int .i64 u]) (.bool true)).run Try.prog w = .ok () w' := hrun
  unfold Oper.wp
  simp [execOp, hop, hm, hx, hv, hrun, Result.andThen]
  exact hK' _ _ (hK w' (MetP.put (out := out) hown.isMap hn hat hw hu r1) r2)
theorem MetP.make (hg : o.guard = none) (hop : o.op = Op.makeMap 61 none) (hK : ∀ b w1, MetP w1 b [] → Below w.heap.size w w1 → b = w.heap.size → wpList Try.prog ops Q rest (a.put o.dst (.map (some b))) w1) : wpList Try.prog ops Q (o :: rest) a w := by
  refine wpList_plain hg fun K' hK' => ?_
  have hrun := @run_makeMap Try.prog 61 w
  unfold Oper.wp
  simp [execOp, hop, hrun, Result.andThen]
  exact hK' _ _ (hK _ _ (MetP.made w) (below_alloc (Below.refl _ _) _) rfl)
end
theorem isGraph_rd {W : World} {v : Value} {l : List Int} (own : Bool) {b : Bool} (h : Rd W v l) (hb : good l = b) : Calls Try.prog 31 #[.agg #[v, .bool own]] W fun e W' => e = .returned (.bool b) ∧ Below W.heap.size W W' := by
  obtain ⟨A, c, rfl, hc, hC, hl⟩ := h
  obtain ⟨K, hK⟩ := ev_get (impl_isGraph.ev l own)
  exact impl_isGraph.calls K A c l own b W hC hc ((hK K (Nat.le_refl _)).trans (by rw [hb]))
theorem hasButton_rd {W : World} {v v2 : Value} {l e : List Int} (own : Bool) {b : Bool} (h : Rd W v l) (h2 : Rd W v2 e) (hb : (good l && e.all (isBtn l.length)) = b) : Calls Try.prog 39 #[.agg #[v, .bool own], v2] W fun e W' => e = .returned (.bool b) ∧ Below W.heap.size W W' := by
  obtain ⟨A, c, rfl, hc, hC, hl⟩ := h
  obtain ⟨A2, c2, rfl, hc2, hC2, hl2⟩ := h2
  obtain ⟨K, hK⟩ := ev_get (impl_hasButton.ev l own e)
  exact impl_hasButton.calls K A c l own A2 c2 e b W hC hc hC2 hc2 ((hK K (Nat.le_refl _)).trans (by rw [hb]))
theorem RdE.row {W : World} {A : Option Addr} {n c : Nat} {E : List (List Int)} (h : RdE W (.slice A n c) E) {k : Nat} (hk : k < E.length) {e : List Int} (he : E.getD k [] = e) (hl : e.length ≤ 1048576) :
    ∃ ad B c2, A = some ad ∧ W.cell? (ad.add k) = some (.slice B e.length c2) ∧ Rd W (.slice B e.length c2) e := by
  obtain ⟨hC, _, rfl⟩ := h.cells
  obtain ⟨ad, cs, e1, _, hK, hcell⟩ := ReadsRow.get_ hC [] (k : Int) (by omega) (by omega)
  rw [Int.toNat_natCast, he] at hK
  obtain ⟨B, c2, e2, hl2, hC2⟩ := hK
  subst e2
  have h0 := hcell 0 _ rfl
  rw [Int.toNat_natCast, show k * (Kd.slice 3 (Kd.int .i64)).sz + 0 = k from Nat.mul_one k] at h0
  exact ⟨ad, B, c2, e1, h0, B, c2, rfl, hl2, hC2, hl⟩
theorem wf_nat {x : Nat} (h : x < 65536) : (Lit.int .i64 (x : Int)).wf = true := by
  simp [Lit.wf, IntKind.min, IntKind.max, IntKind.bits, IntKind.signed]
  omega
theorem evList_false {l : List Int} {E : List (List Int)} {x ok : Bool} {k : Nat} (hr : evListR l E = (x, ok)) (hk : k < E.length) (h : (edgeOk l (E.getD k []) && !((E.take k).contains (E.getD k []))) = false) : x = false ∧ ok = false := by
  rw [evList_bad (k := k + 1) (by omega) (by rw [evTo_succ, h, Bool.and_false])] at hr
  injection hr with e1 e2
  exact ⟨e1.symm, e2.symm⟩
theorem not_edge {l e : List Int} {b : Bool} (h : edgeOk l e = false) : (edgeOk l e && b) = false := by rw [h]; rfl
theorem cell_up {W W' : World} (hb : Below W.heap.size W W') {a : Addr} {v : Value} (h : W.cell? a = some v) : W'.cell? a = some v := (hb.cell (World.block_lt_of_cell? W a h)).trans h
theorem two_at {wr : World} {B : Option Addr} {ce : Nat} {p q : Int} (h : Rd wr (.slice B 2 ce) [p, q]) : ∃ ae, B = some ae ∧ ∀ w', Below wr.heap.size wr w' → w'.cell? ae = some (.int .i64 p) ∧ w'.cell? ⟨ae.block, ae.off + 1, none⟩ = some (.int .i64 q) := by
  obtain ⟨ae, rfl, _⟩ := h.cell 0 (by omega) (by omega)
  refine ⟨ae, rfl, fun w' hb => ?_⟩
  have h0 := (h.below hb).cellN 0 (by omega)
  have h1 := (h.below hb).cellN 1 (by omega)
  rw [add_zero_] at h0
  exact ⟨h0, h1⟩
theorem near_at {wr : World} {A : Option Addr} {c : Nat} {l : List Int} (h : Rd wr (.slice A l.length c) l) (hG : GoodG l) {p : Nat} (hp : p < l.length) : ∃ an, A = some an ∧ (∀ w', Below wr.heap.size wr w' → w'.cell? (an.add p) = some (.int .i64 ((nb l p : Nat) : Int))) ∧ nb l p < 65536 := by
  obtain ⟨an, rfl, _⟩ := h.cell (p : Int) (by omega) (by omega)
  have h1 := hG.sets (rd l (p : Int)) (rd_mem l _ (by omega) (by omega))
  have h16 : (2 : Int) ^ l.length ≤ 65536 := pow16 hG.top
  have hrd : rd l (p : Int) = ((nb l p : Nat) : Int) := by unfold nb; omega
  refine ⟨an, rfl, fun w' hb => ?_, by omega⟩
  rw [← hrd]
  exact (h.below hb).cellN p hp
theorem ends_bits {a p q b : Nat} (ha : a < 65536) (hp : p < 16) (hq : q < 16) (hb : b = a ^^^ (2 ^ p ||| 2 ^ q)) : Go.bits .xor .i64 (a : Int) (Go.bits .or .i64 (IntKind.i64.wrap (2 ^ p)) (IntKind.i64.wrap (2 ^ q))) = (b : Int) := by
  have p1 : (2 : Nat) ^ p < 2 ^ 16 := Nat.pow_lt_pow_right (by decide) hp
  have p2 : (2 : Nat) ^ q < 2 ^ 16 := Nat.pow_lt_pow_right (by decide) hq
  have p3 : 2 ^ p ||| 2 ^ q < 2 ^ 16 := Nat.or_lt_two_pow p1 p2
  subst hb
  rw [← pow_cast, ← pow_cast]
  generalize (2 : Nat) ^ p = x at *
  generalize (2 : Nat) ^ q = y at *
  rw [wraps_i64 _ (by omega) (by omega), wraps_i64 _ (by omega) (by omega), or_nat x y (by omega) (by omega), xor_nat _ _ (by omega) (by omega)]
theorem ret_bb {b b' c : Bool} (h : b = b') : Ending.returned (.tuple #[.bool b, .bool c]) = .returned (.tuple #[.bool b', .bool c]) := by rw [h]
set_option maxRecDepth 100000 in
set_option maxHeartbeats 8000000 in
theorem IsEvenEdges_any {W : World} {v v2 : Value} {l : List Int} {E : List (List Int)} (own : Bool) {x ok : Bool} (h : Rd W v l) (h2 : RdE W v2 E) (hE : E.length ≤ 1000) (hl : ∀ e ∈ E, e.length ≤ 1000) (hr : evListR l E = (x, ok)) :
    Calls Try.prog 14 #[.agg #[v, .bool own], v2] W fun e W' => e = .returned (.tuple #[.bool x, .bool ok]) ∧ Below W.heap.size W W' := by
  have hu := Try.underlying26
  have hua := Try.underlying62
  obtain ⟨A, c, rfl⟩ := h.slice
  obtain ⟨A2, c2, rfl⟩ := h2.slice
  have HB := Aside0.mk (below_alloc (Below.refl W.heap.size W) (.cells #[.slice A l.length c, .bool own] 26 (0, 0)))
  have X := Aside0.mk (blk_new W (.cells #[.slice A l.length c, .bool own] 26 (0, 0)))
  have R := Aside0.mk (h.alloc (.cells #[.slice A l.length c, .bool own] 26 (0, 0)))
  have HR := Aside0.mk h
  have HE := Aside0.mk h2
  have HX := Aside0.mk hr
  have HL := Aside0.mk hl
  cases hg : good l
  · rw [evList_none hg] at hr
    injection hr with e1 e2
    subst e1 e2
    have HG := Aside0.mk hg
    clear h h2 hg hl
    go_enter Try.func14, Try.ntmps14
    go_upto_region 1 with (fail)
    generalize W.alloc (.cells #[.slice A l.length c, .bool own] 26 (0, 0)) = w1 at *
    (try clear hX0 hX1 fX0 fX1); have hX0 := (blk_cell X.out 0).trans rfl; have hX1 := (blk_cell X.out 1).trans rfl; have fX0 := blk_frozen X.out 0; have fX1 := blk_frozen X.out 1
    go_wp2_with (go_at_call 31; (with_reducible refine (isGraph_rd own R.out HG.out).mono ?_); rintro e w2 ⟨rfl, hb⟩; have nB := Aside0.mk (below_step HB.out hb); clear X HB R hb hX0 hX1 fX0 fX1; have HB := nB; clear nB)
    go_ret2
    exact ⟨rfl, HB.out⟩
  have HG := Aside0.mk hg
  have hG := (good_iff l).1 hg
  have hg16 := hG.top
  have hgoodx : evTo l E E.length = true → x = (endsX E == 0) ∧ ok = true := fun h => by
    rw [evList_good hg h] at hr
    injection hr with e1 e2
    exact ⟨e1.symm, e2.symm⟩
  have HGX := Aside0.mk hgoodx
  have HGG := Aside0.mk hG
  clear h h2 hg hG hl hr hgoodx
  go_enter Try.func14, Try.ntmps14
  go_upto_region 1 with (fail)
  generalize W.alloc (.cells #[.slice A l.length c, .bool own] 26 (0, 0)) = w1 at *
  (try clear hX0 hX1 fX0 fX1); have hX0 := (blk_cell X.out 0).trans rfl; have hX1 := (blk_cell X.out 1).trans rfl; have fX0 := blk_frozen X.out 0; have fX1 := blk_frozen X.out 1
  go_upto_region 5 with (first
    | (go_at_call 31; (with_reducible refine (isGraph_rd own R.out HG.out).mono ?_); rintro e w2 ⟨rfl, hb⟩; have nX := Aside0.mk (blk_below X.out hb); have nB := Aside0.mk (below_step HB.out hb); clear X HB R hb hX0 hX1 fX0 fX1; have X := nX; have HB := nB; clear nX nB; (try clear hX0 hX1 fX0 fX1); have hX0 := (blk_cell X.out 0).trans rfl; have hX1 := (blk_cell X.out 1).trans rfl; have fX0 := blk_frozen X.out 0; have fX1 := blk_frozen X.out 1)
    | (refine MetP.make rfl rfl ?_; intro mb w3 hm hb hmb; have HM := Aside0.mk hm; have HMB := Aside0.mk (show W.heap.size < mb by rw [hmb]; exact Nat.lt_of_lt_of_le (blk_lt X.out) (Nat.le_refl _)); have nX := Aside0.mk (blk_below X.out hb); have nB := Aside0.mk (below_step HB.out hb); clear X HB hb hX0 hX1 fX0 fX1 hm hmb; have X := nX; have HB := nB; clear nX nB; (try clear hX0 hX1 fX0 fX1); have hX0 := (blk_cell X.out 0).trans rfl; have hX1 := (blk_cell X.out 1).trans rfl; have fX0 := blk_frozen X.out 0; have fX1 := blk_frozen X.out 1))
  go_loopw [7, 16] (fun v7 v16 wr => ∃ k : Nat, k ≤ E.length ∧ v16 = .int .i64 (k : Int) ∧ v7 = .int .i64 ((endsX (E.take k) : Nat) : Int) ∧ Aside0 (evTo l E k = true) ∧ Aside0 (MetP wr mb (E.take k)) ∧ Aside0 (wr.heap[W.heap.size]? = some (.cells #[.slice A l.length c, .bool own] 26 (0, 0))) ∧ Aside0 (Below W.heap.size W wr)) (fun _ v16 _ => E.length - (intOf v16).toNat)
  case atStart => exact ⟨0, Nat.zero_le _, rfl, rfl, ⟨rfl⟩, HM, X, HB⟩
  case round =>
    clear HM HB X hX0 hX1 fX0 fX1
    obtain ⟨k, hk, rfl, rfl, HT, HM, X, HB⟩ := hrel
    (try clear hX0 hX1 fX0 fX1); have hX0 := (blk_cell X.out 0).trans rfl; have hX1 := (blk_cell X.out 1).trans rfl; have fX0 := blk_frozen X.out 0; have fX1 := blk_frozen X.out 1
    by_cases hlt : k < E.length
    · have hes := ends_small hg16 hk HT.out
      obtain ⟨e, he⟩ : ∃ e, E.getD k [] = e := ⟨_, rfl⟩
      have hel : e.length ≤ 1000 := HL.out e (by rw [← he, List.getD_eq_getElem?_getD, List.getElem?_eq_getElem hlt, Option.getD_some]; exact List.getElem_mem _)
      obtain ⟨ad, Be, ce, rfl, hc0, hre⟩ := HE.out.row hlt he (by omega)
      have hc1 : wr.cell? (ad.add k) = some (.slice Be e.length ce) := cell_up HB.out hc0
      have HRe0 := Aside0.mk hre
      have HRe := Aside0.mk (hre.below HB.out)
      clear hc0
      have HRl := Aside0.mk (HR.out.below HB.out)
      have hmk : ∀ w', Below wr.heap.size wr w' → w'.cell? ⟨W.heap.size, 0, none⟩ = some (.slice A l.length c) ∧ w'.cell? ⟨W.heap.size, 1, none⟩ = some (.bool own) := fun w' hb => ⟨(blk_cell (blk_below X.out hb) 0).trans rfl, (blk_cell (blk_below X.out hb) 1).trans rfl⟩
      have HMK := Aside0.mk hmk
      clear hmk hre
      cases hed : edgeOk l e
      · obtain ⟨rfl, rfl⟩ := evList_false HX.out hlt (by rw [he]; exact not_edge hed)
        rcases edge_why hed with hne | ⟨a, b, rfl, hbt⟩ | ⟨p, q, rfl, hp, hq, hpq⟩ | ⟨p, q, rfl, hpq, hq, hbit⟩
        · have t1 : ((e.length : Int) != 2) = true := by simp; omega
          clear hed he hne
          go_upto_region 7 with (fail)
          go_quiet (fail)
          go_wp2
          go_ret2
          exact ⟨rfl, by (repeat (first | exact HB.out | refine pw_below_drewN ?_ _ | refine below_drew1 ?_))⟩
        · have HBT := Aside0.mk (show (good l && [a, b].all (isBtn l.length)) = false by rw [HG.out, List.all_cons, List.all_cons, List.all_nil, Bool.and_true, hbt]; rfl)
          have HRq := Aside0.mk (show Rd wr (.slice Be 2 ce) [a, b] from HRe.out)
          clear hed he hbt HRe
          go_upto_region 7 with (fail)
          refine wp_region_held_drew (S := Below wr.heap.size wr) (by kernel_rfl) (below_drew1 (Below.refl _ _)) (fun hHeld => ?_)
          (refine H_take (i := 0) (some 20) (v := ?_) rfl rfl (by kernel_rfl) (by kernel_rfl) (by kernel_rfl) (fun _ _ _ h => h) (by rfl) ?_ (by assumption) ?_); rotate_left; (focus (intro w hSw; obtain ⟨hz0, hz1⟩ := HMK.out w hSw; go_simp; (try with_reducible rfl))); (try simp only [Act.put, List.setIfInBounds_toArray, List.set_cons_zero, List.set_cons_succ]); (refine H_take (i := 1) (some 21) (v := ?_) rfl rfl (by kernel_rfl) (by kernel_rfl) (by kernel_rfl) (fun _ _ _ h => h) (by rfl) ?_ (by assumption) ?_); rotate_left; (focus (intro w hSw; obtain ⟨hz0, hz1⟩ := HMK.out w hSw; go_simp; (try with_reducible rfl))); (try simp only [Act.put, List.setIfInBounds_toArray, List.set_cons_zero, List.set_cons_succ]); (refine H_take (i := 2) (some 22) (v := ?_) rfl rfl (by kernel_rfl) (by kernel_rfl) (by kernel_rfl) (fun _ _ _ h => h) (by rfl) ?_ (by assumption) ?_); rotate_left; (focus (intro w hSw; obtain ⟨hz0, hz1⟩ := HMK.out w hSw; go_simp; (try with_reducible rfl))); (try simp only [Act.put, List.setIfInBounds_toArray, List.set_cons_zero, List.set_cons_succ]); (refine H_take (i := 3) (some 23) (v := ?_) rfl rfl (by kernel_rfl) (by kernel_rfl) (by kernel_rfl) (fun _ _ _ h => h) (by rfl) ?_ (by assumption) ?_); rotate_left; (focus (intro w hSw; obtain ⟨hz0, hz1⟩ := HMK.out w hSw; go_simp; (try with_reducible rfl))); (try simp only [Act.put, List.setIfInBounds_toArray, List.set_cons_zero, List.set_cons_succ]); (refine H_take (i := 4) (some 24) (v := ?_) rfl rfl (by kernel_rfl) (by kernel_rfl) (by kernel_rfl) (fun _ _ _ h => h) (by rfl) ?_ (by assumption) ?_); rotate_left; (focus (intro w hSw; obtain ⟨hz0, hz1⟩ := HMK.out w hSw; go_simp; (try with_reducible rfl))); (try simp only [Act.put, List.setIfInBounds_toArray, List.set_cons_zero, List.set_cons_succ]); (refine H_take (i := 5) (some 25) (v := ?_) rfl rfl (by kernel_rfl) (by kernel_rfl) (by kernel_rfl) (fun _ _ _ h => h) (by rfl) ?_ (by assumption) ?_); rotate_left; (focus (intro w hSw; obtain ⟨hz0, hz1⟩ := HMK.out w hSw; go_simp; (try with_reducible rfl))); (try simp only [Act.put, List.setIfInBounds_toArray, List.set_cons_zero, List.set_cons_succ])
          (refine wpAnyH_ready (rs := [6]) (by kernel_rfl) (by simp) ?_); (refine AllReadyH.cons (o := _) rfl (fun K hK => ?_) AllReadyH.nil); go_simp; (go_at_call 39; (with_reducible refine (hasButton_rd own (HRl.out.below hHeld) (HRq.out.below hHeld) HBT.out).mono ?_); rintro r w5 ⟨rfl, hb5⟩); (refine hK.out _ _ ?_ (fun hHeld => ?_)); (focus (exact below_step hHeld hb5)); clear hK K; (try simp only [Act.put, List.setIfInBounds_toArray, List.set_cons_zero, List.set_cons_succ])
          (refine H_take (i := 7) (some 27) (v := ?_) rfl rfl (by kernel_rfl) (by kernel_rfl) (by kernel_rfl) (fun _ _ _ h => h) (by rfl) ?_ (by assumption) ?_); rotate_left; (focus (intro w hSw; obtain ⟨hz0, hz1⟩ := HMK.out w hSw; go_simp; (try with_reducible rfl))); (try simp only [Act.put, List.setIfInBounds_toArray, List.set_cons_zero, List.set_cons_succ]); (refine H_take (i := 8) (some 28) (v := ?_) rfl rfl (by kernel_rfl) (by kernel_rfl) (by kernel_rfl) (fun _ _ _ h => h) (by rfl) ?_ (by assumption) ?_); rotate_left; (focus (intro w hSw; obtain ⟨hz0, hz1⟩ := HMK.out w hSw; go_simp; (try with_reducible rfl))); (try simp only [Act.put, List.setIfInBounds_toArray, List.set_cons_zero, List.set_cons_succ]); (refine H_take (i := 9) (some 29) (v := ?_) rfl rfl (by kernel_rfl) (by kernel_rfl) (by kernel_rfl) (fun _ _ _ h => h) (by rfl) ?_ (by assumption) ?_); rotate_left; (focus (intro w hSw; obtain ⟨hz0, hz1⟩ := HMK.out w hSw; go_simp; (try with_reducible rfl))); (try simp only [Act.put, List.setIfInBounds_toArray, List.set_cons_zero, List.set_cons_succ]); (refine H_skip (i := 10) (some 30) rfl rfl (by kernel_rfl) (by kernel_rfl) (by kernel_rfl) (fun _ _ _ h => h) (by rfl) (by assumption) ?_); (try simp only [Act.put, List.setIfInBounds_toArray, List.set_cons_zero, List.set_cons_succ]); (refine H_skip (i := 11) (some 31) rfl rfl (by kernel_rfl) (by kernel_rfl) (by kernel_rfl) (fun _ _ _ h => h) (by rfl) (by assumption) ?_); (try simp only [Act.put, List.setIfInBounds_toArray, List.set_cons_zero, List.set_cons_succ]); (refine H_skip (i := 12) (some 32) rfl rfl (by kernel_rfl) (by kernel_rfl) (by kernel_rfl) (fun _ _ _ h => h) (by rfl) (by assumption) ?_); (try simp only [Act.put, List.setIfInBounds_toArray, List.set_cons_zero, List.set_cons_succ]); (refine H_skip (i := 13) (some 33) rfl rfl (by kernel_rfl) (by kernel_rfl) (by kernel_rfl) (fun _ _ _ h => h) (by rfl) (by assumption) ?_); (try simp only [Act.put, List.setIfInBounds_toArray, List.set_cons_zero, List.set_cons_succ]); (refine H_skip (i := 14) (some 34) rfl rfl (by kernel_rfl) (by kernel_rfl) (by kernel_rfl) (fun _ _ _ h => h) (by rfl) (by assumption) ?_); (try simp only [Act.put, List.setIfInBounds_toArray, List.set_cons_zero, List.set_cons_succ]); (refine H_skip (i := 15) (some 35) rfl rfl (by kernel_rfl) (by kernel_rfl) (by kernel_rfl) (fun _ _ _ h => h) (by rfl) (by assumption) ?_); (try simp only [Act.put, List.setIfInBounds_toArray, List.set_cons_zero, List.set_cons_succ]); (refine H_skip (i := 16) (some 36) rfl rfl (by kernel_rfl) (by kernel_rfl) (by kernel_rfl) (fun _ _ _ h => h) (by rfl) (by assumption) ?_); (try simp only [Act.put, List.setIfInBounds_toArray, List.set_cons_zero, List.set_cons_succ]); (refine H_take (i := 17) (some 37) (v := ?_) rfl rfl (by kernel_rfl) (by kernel_rfl) (by kernel_rfl) (fun _ _ _ h => h) (by rfl) ?_ (by assumption) ?_); rotate_left; (focus (intro w hSw; obtain ⟨hz0, hz1⟩ := HMK.out w hSw; go_simp; (try with_reducible rfl))); (try simp only [Act.put, List.setIfInBounds_toArray, List.set_cons_zero, List.set_cons_succ]); (refine H_take (i := 18) (some 38) (v := ?_) rfl rfl (by kernel_rfl) (by kernel_rfl) (by kernel_rfl) (fun _ _ _ h => h) (by rfl) ?_ (by assumption) ?_); rotate_left; (focus (intro w hSw; obtain ⟨hz0, hz1⟩ := HMK.out w hSw; go_simp; (try with_reducible rfl))); (try simp only [Act.put, List.setIfInBounds_toArray, List.set_cons_zero, List.set_cons_succ]); (refine H_skip (i := 19) (some 39) rfl rfl (by kernel_rfl) (by kernel_rfl) (by kernel_rfl) (fun _ _ _ h => h) (by rfl) (by assumption) ?_); (try simp only [Act.put, List.setIfInBounds_toArray, List.set_cons_zero, List.set_cons_succ]); (refine H_skip (i := 20) (some 40) rfl rfl (by kernel_rfl) (by kernel_rfl) (by kernel_rfl) (fun _ _ _ h => h) (by rfl) (by assumption) ?_); (try simp only [Act.put, List.setIfInBounds_toArray, List.set_cons_zero, List.set_cons_succ]); (refine H_skip (i := 21) (some 41) rfl rfl (by kernel_rfl) (by kernel_rfl) (by kernel_rfl) (fun _ _ _ h => h) (by rfl) (by assumption) ?_); (try simp only [Act.put, List.setIfInBounds_toArray, List.set_cons_zero, List.set_cons_succ]); (refine H_skip (i := 22) (some 42) rfl rfl (by kernel_rfl) (by kernel_rfl) (by kernel_rfl) (fun _ _ _ h => h) (by rfl) (by assumption) ?_); (try simp only [Act.put, List.setIfInBounds_toArray, List.set_cons_zero, List.set_cons_succ]); (refine H_skip (i := 23) (some 43) rfl rfl (by kernel_rfl) (by kernel_rfl) (by kernel_rfl) (fun _ _ _ h => h) (by rfl) (by assumption) ?_); (try simp only [Act.put, List.setIfInBounds_toArray, List.set_cons_zero, List.set_cons_succ]); (refine H_skip (i := 24) (some 44) rfl rfl (by kernel_rfl) (by kernel_rfl) (by kernel_rfl) (fun _ _ _ h => h) (by rfl) (by assumption) ?_); (try simp only [Act.put, List.setIfInBounds_toArray, List.set_cons_zero, List.set_cons_succ]); (refine H_skip (i := 25) (some 45) rfl rfl (by kernel_rfl) (by kernel_rfl) (by kernel_rfl) (fun _ _ _ h => h) (by rfl) (by assumption) ?_); (try simp only [Act.put, List.setIfInBounds_toArray, List.set_cons_zero, List.set_cons_succ]); (refine H_skip (i := 26) (some 46) rfl rfl (by kernel_rfl) (by kernel_rfl) (by kernel_rfl) (fun _ _ _ h => h) (by rfl) (by assumption) ?_); (try simp only [Act.put, List.setIfInBounds_toArray, List.set_cons_zero, List.set_cons_succ]); (refine H_skip (i := 27) (some 47) rfl rfl (by kernel_rfl) (by kernel_rfl) (by kernel_rfl) (fun _ _ _ h => h) (by rfl) (by assumption) ?_); (try simp only [Act.put, List.setIfInBounds_toArray, List.set_cons_zero, List.set_cons_succ]); (refine H_skip (i := 28) (some 48) rfl rfl (by kernel_rfl) (by kernel_rfl) (by kernel_rfl) (fun _ _ _ h => h) (by rfl) (by assumption) ?_); (try simp only [Act.put, List.setIfInBounds_toArray, List.set_cons_zero, List.set_cons_succ]); (refine H_skip (i := 29) (some 49) rfl rfl (by kernel_rfl) (by kernel_rfl) (by kernel_rfl) (fun _ _ _ h => h) (by rfl) (by assumption) ?_); (try simp only [Act.put, List.setIfInBounds_toArray, List.set_cons_zero, List.set_cons_succ]); (refine H_skip (i := 30) (some 50) rfl rfl (by kernel_rfl) (by kernel_rfl) (by kernel_rfl) (fun _ _ _ h => h) (by rfl) (by assumption) ?_); (try simp only [Act.put, List.setIfInBounds_toArray, List.set_cons_zero, List.set_cons_succ]); (refine H_take (i := 31) (some 51) (v := ?_) rfl rfl (by kernel_rfl) (by kernel_rfl) (by kernel_rfl) (fun _ _ _ h => h) (by rfl) ?_ (by assumption) ?_); rotate_left; (focus (intro w hSw; obtain ⟨hz0, hz1⟩ := HMK.out w hSw; go_simp; (try with_reducible rfl))); (try simp only [Act.put, List.setIfInBounds_toArray, List.set_cons_zero, List.set_cons_succ]); (refine H_take (i := 32) (some 52) (v := ?_) rfl rfl (by kernel_rfl) (by kernel_rfl) (by kernel_rfl) (fun _ _ _ h => h) (by rfl) ?_ (by assumption) ?_); rotate_left; (focus (intro w hSw; obtain ⟨hz0, hz1⟩ := HMK.out w hSw; go_simp; (try with_reducible rfl))); (try simp only [Act.put, List.setIfInBounds_toArray, List.set_cons_zero, List.set_cons_succ]); (refine H_skip (i := 33) (some 53) rfl rfl (by kernel_rfl) (by kernel_rfl) (by kernel_rfl) (fun _ _ _ h => h) (by rfl) (by assumption) ?_); (try simp only [Act.put, List.setIfInBounds_toArray, List.set_cons_zero, List.set_cons_succ]); (refine H_skip (i := 34) (some 54) rfl rfl (by kernel_rfl) (by kernel_rfl) (by kernel_rfl) (fun _ _ _ h => h) (by rfl) (by assumption) ?_); (try simp only [Act.put, List.setIfInBounds_toArray, List.set_cons_zero, List.set_cons_succ]); (refine H_skip (i := 35) (some 55) rfl rfl (by kernel_rfl) (by kernel_rfl) (by kernel_rfl) (fun _ _ _ h => h) (by rfl) (by assumption) ?_); (try simp only [Act.put, List.setIfInBounds_toArray, List.set_cons_zero, List.set_cons_succ]); (refine H_skip (i := 36) (some 56) rfl rfl (by kernel_rfl) (by kernel_rfl) (by kernel_rfl) (fun _ _ _ h => h) (by rfl) (by assumption) ?_); (try simp only [Act.put, List.setIfInBounds_toArray, List.set_cons_zero, List.set_cons_succ]); (refine H_skip (i := 37) (some 57) rfl rfl (by kernel_rfl) (by kernel_rfl) (by kernel_rfl) (fun _ _ _ h => h) (by rfl) (by assumption) ?_); (try simp only [Act.put, List.setIfInBounds_toArray, List.set_cons_zero, List.set_cons_succ]); (refine H_take (i := 38) (some 58) (v := ?_) rfl rfl (by kernel_rfl) (by kernel_rfl) (by kernel_rfl) (fun _ _ _ h => h) (by rfl) ?_ (by assumption) ?_); rotate_left; (focus (intro w hSw; obtain ⟨hz0, hz1⟩ := HMK.out w hSw; go_simp; (try with_reducible rfl))); (try simp only [Act.put, List.setIfInBounds_toArray, List.set_cons_zero, List.set_cons_succ])
          refine wpAnyH_done (by kernel_rfl) ?_ _
          go_wp2
          go_ret2
          exact ⟨rfl, below_step HB.out hHeld⟩
        · have HBT := Aside0.mk (show (good l && [(p : Int), (q : Int)].all (isBtn l.length)) = true by rw [HG.out, List.all_cons, List.all_cons, List.all_nil, isBtn_of (by omega) (by omega), isBtn_of (by omega) (by omega)]; rfl)
          have HRq := Aside0.mk (show Rd wr (.slice Be 2 ce) [(p : Int), (q : Int)] from HRe.out)
          obtain ⟨ae, rfl, hpa⟩ := two_at HRq.out
          have HPA := Aside0.mk hpa
          have t2 : decide ((q : Int) ≤ (p : Int)) = true := by simp; omega
          have t3 : decide (q ≤ p) = true := decide_eq_true (by omega)
          clear hed he HRe hpa
          go_upto_region 7 with (fail)
          refine wp_region_held_drew (S := Below wr.heap.size wr) (by kernel_rfl) (below_drew1 (Below.refl _ _)) (fun hHeld => ?_)
          (refine H_take (i := 0) (some 20) (v := ?_) rfl rfl (by kernel_rfl) (by kernel_rfl) (by kernel_rfl) (fun _ _ _ h => h) (by rfl) ?_ (by assumption) ?_); rotate_left; (focus (intro w hSw; obtain ⟨hz0, hz1⟩ := HMK.out w hSw; go_simp; (try with_reducible rfl))); (try simp only [Act.put, List.setIfInBounds_toArray, List.set_cons_zero, List.set_cons_succ]); (refine H_take (i := 1) (some 21) (v := ?_) rfl rfl (by kernel_rfl) (by kernel_rfl) (by kernel_rfl) (fun _ _ _ h => h) (by rfl) ?_ (by assumption) ?_); rotate_left; (focus (intro w hSw; obtain ⟨hz0, hz1⟩ := HMK.out w hSw; go_simp; (try with_reducible rfl))); (try simp only [Act.put, List.setIfInBounds_toArray, List.set_cons_zero, List.set_cons_succ]); (refine H_take (i := 2) (some 22) (v := ?_) rfl rfl (by kernel_rfl) (by kernel_rfl) (by kernel_rfl) (fun _ _ _ h => h) (by rfl) ?_ (by assumption) ?_); rotate_left; (focus (intro w hSw; obtain ⟨hz0, hz1⟩ := HMK.out w hSw; go_simp; (try with_reducible rfl))); (try simp only [Act.put, List.setIfInBounds_toArray, List.set_cons_zero, List.set_cons_succ]); (refine H_take (i := 3) (some 23) (v := ?_) rfl rfl (by kernel_rfl) (by kernel_rfl) (by kernel_rfl) (fun _ _ _ h => h) (by rfl) ?_ (by assumption) ?_); rotate_left; (focus (intro w hSw; obtain ⟨hz0, hz1⟩ := HMK.out w hSw; go_simp; (try with_reducible rfl))); (try simp only [Act.put, List.setIfInBounds_toArray, List.set_cons_zero, List.set_cons_succ]); (refine H_take (i := 4) (some 24) (v := ?_) rfl rfl (by kernel_rfl) (by kernel_rfl) (by kernel_rfl) (fun _ _ _ h => h) (by rfl) ?_ (by assumption) ?_); rotate_left; (focus (intro w hSw; obtain ⟨hz0, hz1⟩ := HMK.out w hSw; go_simp; (try with_reducible rfl))); (try simp only [Act.put, List.setIfInBounds_toArray, List.set_cons_zero, List.set_cons_succ]); (refine H_take (i := 5) (some 25) (v := ?_) rfl rfl (by kernel_rfl) (by kernel_rfl) (by kernel_rfl) (fun _ _ _ h => h) (by rfl) ?_ (by assumption) ?_); rotate_left; (focus (intro w hSw; obtain ⟨hz0, hz1⟩ := HMK.out w hSw; go_simp; (try with_reducible rfl))); (try simp only [Act.put, List.setIfInBounds_toArray, List.set_cons_zero, List.set_cons_succ])
          (refine wpAnyH_ready (rs := [6]) (by kernel_rfl) (by simp) ?_); (refine AllReadyH.cons (o := _) rfl (fun K hK => ?_) AllReadyH.nil); go_simp; (go_at_call 39; (with_reducible refine (hasButton_rd own (HRl.out.below hHeld) (HRq.out.below hHeld) HBT.out).mono ?_); rintro r w5 ⟨rfl, hb5⟩); (refine hK.out _ _ ?_ (fun hHeld => ?_)); (focus (exact below_step hHeld hb5)); clear hK K; (try simp only [Act.put, List.setIfInBounds_toArray, List.set_cons_zero, List.set_cons_succ])
          (refine H_take (i := 7) (some 27) (v := ?_) rfl rfl (by kernel_rfl) (by kernel_rfl) (by kernel_rfl) (fun _ _ _ h => h) (by rfl) ?_ (by assumption) ?_); rotate_left; (focus (intro w hSw; obtain ⟨hz0, hz1⟩ := HMK.out w hSw; obtain ⟨hz2, hz3⟩ := HPA.out w hSw; go_simp; (try with_reducible rfl))); (try simp only [Act.put, List.setIfInBounds_toArray, List.set_cons_zero, List.set_cons_succ]); (refine H_take (i := 8) (some 28) (v := ?_) rfl rfl (by kernel_rfl) (by kernel_rfl) (by kernel_rfl) (fun _ _ _ h => h) (by rfl) ?_ (by assumption) ?_); rotate_left; (focus (intro w hSw; obtain ⟨hz0, hz1⟩ := HMK.out w hSw; obtain ⟨hz2, hz3⟩ := HPA.out w hSw; go_simp; (try with_reducible rfl))); (try simp only [Act.put, List.setIfInBounds_toArray, List.set_cons_zero, List.set_cons_succ]); (refine H_take (i := 9) (some 29) (v := ?_) rfl rfl (by kernel_rfl) (by kernel_rfl) (by kernel_rfl) (fun _ _ _ h => h) (by rfl) ?_ (by assumption) ?_); rotate_left; (focus (intro w hSw; obtain ⟨hz0, hz1⟩ := HMK.out w hSw; obtain ⟨hz2, hz3⟩ := HPA.out w hSw; go_simp; (try with_reducible rfl))); (try simp only [Act.put, List.setIfInBounds_toArray, List.set_cons_zero, List.set_cons_succ]); (refine H_take (i := 10) (some 30) (v := ?_) rfl rfl (by kernel_rfl) (by kernel_rfl) (by kernel_rfl) (fun _ _ _ h => h) (by rfl) ?_ (by assumption) ?_); rotate_left; (focus (intro w hSw; obtain ⟨hz0, hz1⟩ := HMK.out w hSw; obtain ⟨hz2, hz3⟩ := HPA.out w hSw; go_simp; (try with_reducible rfl))); (try simp only [Act.put, List.setIfInBounds_toArray, List.set_cons_zero, List.set_cons_succ]); (refine H_take (i := 11) (some 31) (v := ?_) rfl rfl (by kernel_rfl) (by kernel_rfl) (by kernel_rfl) (fun _ _ _ h => h) (by rfl) ?_ (by assumption) ?_); rotate_left; (focus (intro w hSw; obtain ⟨hz0, hz1⟩ := HMK.out w hSw; obtain ⟨hz2, hz3⟩ := HPA.out w hSw; go_simp; (try with_reducible rfl))); (try simp only [Act.put, List.setIfInBounds_toArray, List.set_cons_zero, List.set_cons_succ]); (refine H_take (i := 12) (some 32) (v := ?_) rfl rfl (by kernel_rfl) (by kernel_rfl) (by kernel_rfl) (fun _ _ _ h => h) (by rfl) ?_ (by assumption) ?_); rotate_left; (focus (intro w hSw; obtain ⟨hz0, hz1⟩ := HMK.out w hSw; obtain ⟨hz2, hz3⟩ := HPA.out w hSw; go_simp; (try with_reducible rfl))); (try simp only [Act.put, List.setIfInBounds_toArray, List.set_cons_zero, List.set_cons_succ]); (refine H_take (i := 13) (some 33) (v := ?_) rfl rfl (by kernel_rfl) (by kernel_rfl) (by kernel_rfl) (fun _ _ _ h => h) (by rfl) ?_ (by assumption) ?_); rotate_left; (focus (intro w hSw; obtain ⟨hz0, hz1⟩ := HMK.out w hSw; obtain ⟨hz2, hz3⟩ := HPA.out w hSw; go_simp; (try with_reducible rfl))); (try simp only [Act.put, List.setIfInBounds_toArray, List.set_cons_zero, List.set_cons_succ]); (refine H_take (i := 14) (some 34) (v := ?_) rfl rfl (by kernel_rfl) (by kernel_rfl) (by kernel_rfl) (fun _ _ _ h => h) (by rfl) ?_ (by assumption) ?_); rotate_left; (focus (intro w hSw; obtain ⟨hz0, hz1⟩ := HMK.out w hSw; obtain ⟨hz2, hz3⟩ := HPA.out w hSw; go_simp; (try with_reducible rfl))); (try simp only [Act.put, List.setIfInBounds_toArray, List.set_cons_zero, List.set_cons_succ]); (refine H_take (i := 15) (some 35) (v := ?_) rfl rfl (by kernel_rfl) (by kernel_rfl) (by kernel_rfl) (fun _ _ _ h => h) (by rfl) ?_ (by assumption) ?_); rotate_left; (focus (intro w hSw; obtain ⟨hz0, hz1⟩ := HMK.out w hSw; obtain ⟨hz2, hz3⟩ := HPA.out w hSw; go_simp; (try with_reducible rfl))); (try simp only [Act.put, List.setIfInBounds_toArray, List.set_cons_zero, List.set_cons_succ]); (refine H_take (i := 16) (some 36) (v := ?_) rfl rfl (by kernel_rfl) (by kernel_rfl) (by kernel_rfl) (fun _ _ _ h => h) (by rfl) ?_ (by assumption) ?_); rotate_left; (focus (intro w hSw; obtain ⟨hz0, hz1⟩ := HMK.out w hSw; obtain ⟨hz2, hz3⟩ := HPA.out w hSw; go_simp; (try with_reducible rfl))); (try simp only [Act.put, List.setIfInBounds_toArray, List.set_cons_zero, List.set_cons_succ]); (refine H_take (i := 17) (some 37) (v := ?_) rfl rfl (by kernel_rfl) (by kernel_rfl) (by kernel_rfl) (fun _ _ _ h => h) (by rfl) ?_ (by assumption) ?_); rotate_left; (focus (intro w hSw; obtain ⟨hz0, hz1⟩ := HMK.out w hSw; obtain ⟨hz2, hz3⟩ := HPA.out w hSw; go_simp; (try with_reducible rfl))); (try simp only [Act.put, List.setIfInBounds_toArray, List.set_cons_zero, List.set_cons_succ]); (refine H_take (i := 18) (some 38) (v := ?_) rfl rfl (by kernel_rfl) (by kernel_rfl) (by kernel_rfl) (fun _ _ _ h => h) (by rfl) ?_ (by assumption) ?_); rotate_left; (focus (intro w hSw; obtain ⟨hz0, hz1⟩ := HMK.out w hSw; obtain ⟨hz2, hz3⟩ := HPA.out w hSw; go_simp; (try with_reducible rfl))); (try simp only [Act.put, List.setIfInBounds_toArray, List.set_cons_zero, List.set_cons_succ]); (refine H_skip (i := 19) (some 39) rfl rfl (by kernel_rfl) (by kernel_rfl) (by kernel_rfl) (fun _ _ _ h => h) (by rfl) (by assumption) ?_); (try simp only [Act.put, List.setIfInBounds_toArray, List.set_cons_zero, List.set_cons_succ]); (refine H_skip (i := 20) (some 40) rfl rfl (by kernel_rfl) (by kernel_rfl) (by kernel_rfl) (fun _ _ _ h => h) (by rfl) (by assumption) ?_); (try simp only [Act.put, List.setIfInBounds_toArray, List.set_cons_zero, List.set_cons_succ]); (refine H_skip (i := 21) (some 41) rfl rfl (by kernel_rfl) (by kernel_rfl) (by kernel_rfl) (fun _ _ _ h => h) (by rfl) (by assumption) ?_); (try simp only [Act.put, List.setIfInBounds_toArray, List.set_cons_zero, List.set_cons_succ]); (refine H_skip (i := 22) (some 42) rfl rfl (by kernel_rfl) (by kernel_rfl) (by kernel_rfl) (fun _ _ _ h => h) (by rfl) (by assumption) ?_); (try simp only [Act.put, List.setIfInBounds_toArray, List.set_cons_zero, List.set_cons_succ]); (refine H_skip (i := 23) (some 43) rfl rfl (by kernel_rfl) (by kernel_rfl) (by kernel_rfl) (fun _ _ _ h => h) (by rfl) (by assumption) ?_); (try simp only [Act.put, List.setIfInBounds_toArray, List.set_cons_zero, List.set_cons_succ]); (refine H_skip (i := 24) (some 44) rfl rfl (by kernel_rfl) (by kernel_rfl) (by kernel_rfl) (fun _ _ _ h => h) (by rfl) (by assumption) ?_); (try simp only [Act.put, List.setIfInBounds_toArray, List.set_cons_zero, List.set_cons_succ]); (refine H_skip (i := 25) (some 45) rfl rfl (by kernel_rfl) (by kernel_rfl) (by kernel_rfl) (fun _ _ _ h => h) (by rfl) (by assumption) ?_); (try simp only [Act.put, List.setIfInBounds_toArray, List.set_cons_zero, List.set_cons_succ]); (refine H_skip (i := 26) (some 46) rfl rfl (by kernel_rfl) (by kernel_rfl) (by kernel_rfl) (fun _ _ _ h => h) (by rfl) (by assumption) ?_); (try simp only [Act.put, List.setIfInBounds_toArray, List.set_cons_zero, List.set_cons_succ]); (refine H_skip (i := 27) (some 47) rfl rfl (by kernel_rfl) (by kernel_rfl) (by kernel_rfl) (fun _ _ _ h => h) (by rfl) (by assumption) ?_); (try simp only [Act.put, List.setIfInBounds_toArray, List.set_cons_zero, List.set_cons_succ]); (refine H_skip (i := 28) (some 48) rfl rfl (by kernel_rfl) (by kernel_rfl) (by kernel_rfl) (fun _ _ _ h => h) (by rfl) (by assumption) ?_); (try simp only [Act.put, List.setIfInBounds_toArray, List.set_cons_zero, List.set_cons_succ]); (refine H_skip (i := 29) (some 49) rfl rfl (by kernel_rfl) (by kernel_rfl) (by kernel_rfl) (fun _ _ _ h => h) (by rfl) (by assumption) ?_); (try simp only [Act.put, List.setIfInBounds_toArray, List.set_cons_zero, List.set_cons_succ]); (refine H_skip (i := 30) (some 50) rfl rfl (by kernel_rfl) (by kernel_rfl) (by kernel_rfl) (fun _ _ _ h => h) (by rfl) (by assumption) ?_); (try simp only [Act.put, List.setIfInBounds_toArray, List.set_cons_zero, List.set_cons_succ]); (refine H_take (i := 31) (some 51) (v := ?_) rfl rfl (by kernel_rfl) (by kernel_rfl) (by kernel_rfl) (fun _ _ _ h => h) (by rfl) ?_ (by assumption) ?_); rotate_left; (focus (intro w hSw; obtain ⟨hz0, hz1⟩ := HMK.out w hSw; obtain ⟨hz2, hz3⟩ := HPA.out w hSw; go_simp; (try with_reducible rfl))); (try simp only [Act.put, List.setIfInBounds_toArray, List.set_cons_zero, List.set_cons_succ]); (refine H_take (i := 32) (some 52) (v := ?_) rfl rfl (by kernel_rfl) (by kernel_rfl) (by kernel_rfl) (fun _ _ _ h => h) (by rfl) ?_ (by assumption) ?_); rotate_left; (focus (intro w hSw; obtain ⟨hz0, hz1⟩ := HMK.out w hSw; obtain ⟨hz2, hz3⟩ := HPA.out w hSw; go_simp; (try with_reducible rfl))); (try simp only [Act.put, List.setIfInBounds_toArray, List.set_cons_zero, List.set_cons_succ]); (refine H_skip (i := 33) (some 53) rfl rfl (by kernel_rfl) (by kernel_rfl) (by kernel_rfl) (fun _ _ _ h => h) (by rfl) (by assumption) ?_); (try simp only [Act.put, List.setIfInBounds_toArray, List.set_cons_zero, List.set_cons_succ]); (refine H_skip (i := 34) (some 54) rfl rfl (by kernel_rfl) (by kernel_rfl) (by kernel_rfl) (fun _ _ _ h => h) (by rfl) (by assumption) ?_); (try simp only [Act.put, List.setIfInBounds_toArray, List.set_cons_zero, List.set_cons_succ]); (refine H_skip (i := 35) (some 55) rfl rfl (by kernel_rfl) (by kernel_rfl) (by kernel_rfl) (fun _ _ _ h => h) (by rfl) (by assumption) ?_); (try simp only [Act.put, List.setIfInBounds_toArray, List.set_cons_zero, List.set_cons_succ]); (refine H_skip (i := 36) (some 56) rfl rfl (by kernel_rfl) (by kernel_rfl) (by kernel_rfl) (fun _ _ _ h => h) (by rfl) (by assumption) ?_); (try simp only [Act.put, List.setIfInBounds_toArray, List.set_cons_zero, List.set_cons_succ]); (refine H_skip (i := 37) (some 57) rfl rfl (by kernel_rfl) (by kernel_rfl) (by kernel_rfl) (fun _ _ _ h => h) (by rfl) (by assumption) ?_); (try simp only [Act.put, List.setIfInBounds_toArray, List.set_cons_zero, List.set_cons_succ]); (refine H_take (i := 38) (some 58) (v := ?_) rfl rfl (by kernel_rfl) (by kernel_rfl) (by kernel_rfl) (fun _ _ _ h => h) (by rfl) ?_ (by assumption) ?_); rotate_left; (focus (intro w hSw; obtain ⟨hz0, hz1⟩ := HMK.out w hSw; obtain ⟨hz2, hz3⟩ := HPA.out w hSw; go_simp; (try with_reducible rfl))); (try simp only [Act.put, List.setIfInBounds_toArray, List.set_cons_zero, List.set_cons_succ])
          refine wpAnyH_done (by kernel_rfl) ?_ _
          go_wp2
          go_ret2
          exact ⟨rfl, below_step HB.out hHeld⟩
        · have HBT := Aside0.mk (show (good l && [(p : Int), (q : Int)].all (isBtn l.length)) = true by rw [HG.out, List.all_cons, List.all_cons, List.all_nil, isBtn_of (by omega) (by omega), isBtn_of (by omega) (by omega)]; rfl)
          have HRq := Aside0.mk (show Rd wr (.slice Be 2 ce) [(p : Int), (q : Int)] from HRe.out)
          obtain ⟨ae, rfl, hpa⟩ := two_at HRq.out
          have HPA := Aside0.mk hpa
          obtain ⟨an, rfl, hna, hn16⟩ := near_at HRl.out HGG.out (p := p) (by omega)
          have HNA := Aside0.mk hna
          have HBI := Aside0.mk hbit
          have t2 : decide ((q : Int) ≤ (p : Int)) = false := by simp; omega
          have t3 : decide (q ≤ p) = false := decide_eq_false (by omega)
          have t4 : (0 : Int) ≤ (p : Int) := by omega
          have t5 : (p : Int) < (l.length : Int) := by omega
          clear hed he HRe hpa hna hbit
          go_upto_region 7 with (fail)
          refine wp_region_held_drew (S := Below wr.heap.size wr) (by kernel_rfl) (below_drew1 (Below.refl _ _)) (fun hHeld => ?_)
          (refine H_take (i := 0) (some 20) (v := ?_) rfl rfl (by kernel_rfl) (by kernel_rfl) (by kernel_rfl) (fun _ _ _ h => h) (by rfl) ?_ (by assumption) ?_); rotate_left; (focus (intro w hSw; obtain ⟨hz0, hz1⟩ := HMK.out w hSw; go_simp; (try with_reducible rfl))); (try simp only [Act.put, List.setIfInBounds_toArray, List.set_cons_zero, List.set_cons_succ]); (refine H_take (i := 1) (some 21) (v := ?_) rfl rfl (by kernel_rfl) (by kernel_rfl) (by kernel_rfl) (fun _ _ _ h => h) (by rfl) ?_ (by assumption) ?_); rotate_left; (focus (intro w hSw; obtain ⟨hz0, hz1⟩ := HMK.out w hSw; go_simp; (try with_reducible rfl))); (try simp only [Act.put, List.setIfInBounds_toArray, List.set_cons_zero, List.set_cons_succ]); (refine H_take (i := 2) (some 22) (v := ?_) rfl rfl (by kernel_rfl) (by kernel_rfl) (by kernel_rfl) (fun _ _ _ h => h) (by rfl) ?_ (by assumption) ?_); rotate_left; (focus (intro w hSw; obtain ⟨hz0, hz1⟩ := HMK.out w hSw; go_simp; (try with_reducible rfl))); (try simp only [Act.put, List.setIfInBounds_toArray, List.set_cons_zero, List.set_cons_succ]); (refine H_take (i := 3) (some 23) (v := ?_) rfl rfl (by kernel_rfl) (by kernel_rfl) (by kernel_rfl) (fun _ _ _ h => h) (by rfl) ?_ (by assumption) ?_); rotate_left; (focus (intro w hSw; obtain ⟨hz0, hz1⟩ := HMK.out w hSw; go_simp; (try with_reducible rfl))); (try simp only [Act.put, List.setIfInBounds_toArray, List.set_cons_zero, List.set_cons_succ]); (refine H_take (i := 4) (some 24) (v := ?_) rfl rfl (by kernel_rfl) (by kernel_rfl) (by kernel_rfl) (fun _ _ _ h => h) (by rfl) ?_ (by assumption) ?_); rotate_left; (focus (intro w hSw; obtain ⟨hz0, hz1⟩ := HMK.out w hSw; go_simp; (try with_reducible rfl))); (try simp only [Act.put, List.setIfInBounds_toArray, List.set_cons_zero, List.set_cons_succ]); (refine H_take (i := 5) (some 25) (v := ?_) rfl rfl (by kernel_rfl) (by kernel_rfl) (by kernel_rfl) (fun _ _ _ h => h) (by rfl) ?_ (by assumption) ?_); rotate_left; (focus (intro w hSw; obtain ⟨hz0, hz1⟩ := HMK.out w hSw; go_simp; (try with_reducible rfl))); (try simp only [Act.put, List.setIfInBounds_toArray, List.set_cons_zero, List.set_cons_succ])
          (refine wpAnyH_ready (rs := [6]) (by kernel_rfl) (by simp) ?_); (refine AllReadyH.cons (o := _) rfl (fun K hK => ?_) AllReadyH.nil); go_simp; (go_at_call 39; (with_reducible refine (hasButton_rd own (HRl.out.below hHeld) (HRq.out.below hHeld) HBT.out).mono ?_); rintro r w5 ⟨rfl, hb5⟩); (refine hK.out _ _ ?_ (fun hHeld => ?_)); (focus (exact below_step hHeld hb5)); clear hK K; (try simp only [Act.put, List.setIfInBounds_toArray, List.set_cons_zero, List.set_cons_succ])
          (refine H_take (i := 7) (some 27) (v := ?_) rfl rfl (by kernel_rfl) (by kernel_rfl) (by kernel_rfl) (fun _ _ _ h => h) (by rfl) ?_ (by assumption) ?_); rotate_left; (focus (intro w hSw; obtain ⟨hz0, hz1⟩ := HMK.out w hSw; obtain ⟨hz2, hz3⟩ := HPA.out w hSw; have hz4 := HNA.out w hSw; go_simp; (try with_reducible rfl))); (try simp only [Act.put, List.setIfInBounds_toArray, List.set_cons_zero, List.set_cons_succ]); (refine H_take (i := 8) (some 28) (v := ?_) rfl rfl (by kernel_rfl) (by kernel_rfl) (by kernel_rfl) (fun _ _ _ h => h) (by rfl) ?_ (by assumption) ?_); rotate_left; (focus (intro w hSw; obtain ⟨hz0, hz1⟩ := HMK.out w hSw; obtain ⟨hz2, hz3⟩ := HPA.out w hSw; have hz4 := HNA.out w hSw; go_simp; (try with_reducible rfl))); (try simp only [Act.put, List.setIfInBounds_toArray, List.set_cons_zero, List.set_cons_succ]); (refine H_take (i := 9) (some 29) (v := ?_) rfl rfl (by kernel_rfl) (by kernel_rfl) (by kernel_rfl) (fun _ _ _ h => h) (by rfl) ?_ (by assumption) ?_); rotate_left; (focus (intro w hSw; obtain ⟨hz0, hz1⟩ := HMK.out w hSw; obtain ⟨hz2, hz3⟩ := HPA.out w hSw; have hz4 := HNA.out w hSw; go_simp; (try with_reducible rfl))); (try simp only [Act.put, List.setIfInBounds_toArray, List.set_cons_zero, List.set_cons_succ]); (refine H_take (i := 10) (some 30) (v := ?_) rfl rfl (by kernel_rfl) (by kernel_rfl) (by kernel_rfl) (fun _ _ _ h => h) (by rfl) ?_ (by assumption) ?_); rotate_left; (focus (intro w hSw; obtain ⟨hz0, hz1⟩ := HMK.out w hSw; obtain ⟨hz2, hz3⟩ := HPA.out w hSw; have hz4 := HNA.out w hSw; go_simp; (try with_reducible rfl))); (try simp only [Act.put, List.setIfInBounds_toArray, List.set_cons_zero, List.set_cons_succ]); (refine H_take (i := 11) (some 31) (v := ?_) rfl rfl (by kernel_rfl) (by kernel_rfl) (by kernel_rfl) (fun _ _ _ h => h) (by rfl) ?_ (by assumption) ?_); rotate_left; (focus (intro w hSw; obtain ⟨hz0, hz1⟩ := HMK.out w hSw; obtain ⟨hz2, hz3⟩ := HPA.out w hSw; have hz4 := HNA.out w hSw; go_simp; (try with_reducible rfl))); (try simp only [Act.put, List.setIfInBounds_toArray, List.set_cons_zero, List.set_cons_succ]); (refine H_take (i := 12) (some 32) (v := ?_) rfl rfl (by kernel_rfl) (by kernel_rfl) (by kernel_rfl) (fun _ _ _ h => h) (by rfl) ?_ (by assumption) ?_); rotate_left; (focus (intro w hSw; obtain ⟨hz0, hz1⟩ := HMK.out w hSw; obtain ⟨hz2, hz3⟩ := HPA.out w hSw; have hz4 := HNA.out w hSw; go_simp; (try with_reducible rfl))); (try simp only [Act.put, List.setIfInBounds_toArray, List.set_cons_zero, List.set_cons_succ]); (refine H_take (i := 13) (some 33) (v := ?_) rfl rfl (by kernel_rfl) (by kernel_rfl) (by kernel_rfl) (fun _ _ _ h => h) (by rfl) ?_ (by assumption) ?_); rotate_left; (focus (intro w hSw; obtain ⟨hz0, hz1⟩ := HMK.out w hSw; obtain ⟨hz2, hz3⟩ := HPA.out w hSw; have hz4 := HNA.out w hSw; go_simp; (try with_reducible rfl))); (try simp only [Act.put, List.setIfInBounds_toArray, List.set_cons_zero, List.set_cons_succ]); (refine H_take (i := 14) (some 34) (v := ?_) rfl rfl (by kernel_rfl) (by kernel_rfl) (by kernel_rfl) (fun _ _ _ h => h) (by rfl) ?_ (by assumption) ?_); rotate_left; (focus (intro w hSw; obtain ⟨hz0, hz1⟩ := HMK.out w hSw; obtain ⟨hz2, hz3⟩ := HPA.out w hSw; have hz4 := HNA.out w hSw; go_simp; (try with_reducible rfl))); (try simp only [Act.put, List.setIfInBounds_toArray, List.set_cons_zero, List.set_cons_succ]); (refine H_take (i := 15) (some 35) (v := ?_) rfl rfl (by kernel_rfl) (by kernel_rfl) (by kernel_rfl) (fun _ _ _ h => h) (by rfl) ?_ (by assumption) ?_); rotate_left; (focus (intro w hSw; obtain ⟨hz0, hz1⟩ := HMK.out w hSw; obtain ⟨hz2, hz3⟩ := HPA.out w hSw; have hz4 := HNA.out w hSw; go_simp; (try with_reducible rfl))); (try simp only [Act.put, List.setIfInBounds_toArray, List.set_cons_zero, List.set_cons_succ]); (refine H_take (i := 16) (some 36) (v := ?_) rfl rfl (by kernel_rfl) (by kernel_rfl) (by kernel_rfl) (fun _ _ _ h => h) (by rfl) ?_ (by assumption) ?_); rotate_left; (focus (intro w hSw; obtain ⟨hz0, hz1⟩ := HMK.out w hSw; obtain ⟨hz2, hz3⟩ := HPA.out w hSw; have hz4 := HNA.out w hSw; go_simp; (try with_reducible rfl))); (try simp only [Act.put, List.setIfInBounds_toArray, List.set_cons_zero, List.set_cons_succ]); (refine H_take (i := 17) (some 37) (v := ?_) rfl rfl (by kernel_rfl) (by kernel_rfl) (by kernel_rfl) (fun _ _ _ h => h) (by rfl) ?_ (by assumption) ?_); rotate_left; (focus (intro w hSw; obtain ⟨hz0, hz1⟩ := HMK.out w hSw; obtain ⟨hz2, hz3⟩ := HPA.out w hSw; have hz4 := HNA.out w hSw; go_simp; (try with_reducible rfl))); (try simp only [Act.put, List.setIfInBounds_toArray, List.set_cons_zero, List.set_cons_succ]); (refine H_take (i := 18) (some 38) (v := ?_) rfl rfl (by kernel_rfl) (by kernel_rfl) (by kernel_rfl) (fun _ _ _ h => h) (by rfl) ?_ (by assumption) ?_); rotate_left; (focus (intro w hSw; obtain ⟨hz0, hz1⟩ := HMK.out w hSw; obtain ⟨hz2, hz3⟩ := HPA.out w hSw; have hz4 := HNA.out w hSw; go_simp; (try with_reducible rfl))); (try simp only [Act.put, List.setIfInBounds_toArray, List.set_cons_zero, List.set_cons_succ]); (refine H_take (i := 19) (some 39) (v := ?_) rfl rfl (by kernel_rfl) (by kernel_rfl) (by kernel_rfl) (fun _ _ _ h => h) (by rfl) ?_ (by assumption) ?_); rotate_left; (focus (intro w hSw; obtain ⟨hz0, hz1⟩ := HMK.out w hSw; obtain ⟨hz2, hz3⟩ := HPA.out w hSw; have hz4 := HNA.out w hSw; go_simp; (try with_reducible rfl))); (try simp only [Act.put, List.setIfInBounds_toArray, List.set_cons_zero, List.set_cons_succ]); (refine H_take (i := 20) (some 40) (v := ?_) rfl rfl (by kernel_rfl) (by kernel_rfl) (by kernel_rfl) (fun _ _ _ h => h) (by rfl) ?_ (by assumption) ?_); rotate_left; (focus (intro w hSw; obtain ⟨hz0, hz1⟩ := HMK.out w hSw; obtain ⟨hz2, hz3⟩ := HPA.out w hSw; have hz4 := HNA.out w hSw; go_simp; (try with_reducible rfl))); (try simp only [Act.put, List.setIfInBounds_toArray, List.set_cons_zero, List.set_cons_succ]); (refine H_take (i := 21) (some 41) (v := ?_) rfl rfl (by kernel_rfl) (by kernel_rfl) (by kernel_rfl) (fun _ _ _ h => h) (by rfl) ?_ (by assumption) ?_); rotate_left; (focus (intro w hSw; obtain ⟨hz0, hz1⟩ := HMK.out w hSw; obtain ⟨hz2, hz3⟩ := HPA.out w hSw; have hz4 := HNA.out w hSw; go_simp; (try with_reducible rfl))); (try simp only [Act.put, List.setIfInBounds_toArray, List.set_cons_zero, List.set_cons_succ]); (refine H_take (i := 22) (some 42) (v := ?_) rfl rfl (by kernel_rfl) (by kernel_rfl) (by kernel_rfl) (fun _ _ _ h => h) (by rfl) ?_ (by assumption) ?_); rotate_left; (focus (intro w hSw; obtain ⟨hz0, hz1⟩ := HMK.out w hSw; obtain ⟨hz2, hz3⟩ := HPA.out w hSw; have hz4 := HNA.out w hSw; go_simp; (try with_reducible rfl))); (try simp only [Act.put, List.setIfInBounds_toArray, List.set_cons_zero, List.set_cons_succ]); (refine H_take (i := 23) (some 43) (v := ?_) rfl rfl (by kernel_rfl) (by kernel_rfl) (by kernel_rfl) (fun _ _ _ h => h) (by rfl) ?_ (by assumption) ?_); rotate_left; (focus (intro w hSw; obtain ⟨hz0, hz1⟩ := HMK.out w hSw; obtain ⟨hz2, hz3⟩ := HPA.out w hSw; have hz4 := HNA.out w hSw; go_simp; (try with_reducible rfl))); (try simp only [Act.put, List.setIfInBounds_toArray, List.set_cons_zero, List.set_cons_succ]); (refine H_take (i := 24) (some 44) (v := ?_) rfl rfl (by kernel_rfl) (by kernel_rfl) (by kernel_rfl) (fun _ _ _ h => h) (by rfl) ?_ (by assumption) ?_); rotate_left; (focus (intro w hSw; obtain ⟨hz0, hz1⟩ := HMK.out w hSw; obtain ⟨hz2, hz3⟩ := HPA.out w hSw; have hz4 := HNA.out w hSw; go_simp; (try with_reducible rfl))); (try simp only [Act.put, List.setIfInBounds_toArray, List.set_cons_zero, List.set_cons_succ]); (refine H_take (i := 25) (some 45) (v := ?_) rfl rfl (by kernel_rfl) (by kernel_rfl) (by kernel_rfl) (fun _ _ _ h => h) (by rfl) ?_ (by assumption) ?_); rotate_left; (focus (intro w hSw; obtain ⟨hz0, hz1⟩ := HMK.out w hSw; obtain ⟨hz2, hz3⟩ := HPA.out w hSw; have hz4 := HNA.out w hSw; go_simp; (try with_reducible rfl))); (try simp only [Act.put, List.setIfInBounds_toArray, List.set_cons_zero, List.set_cons_succ]); (refine H_take (i := 26) (some 46) (v := ?_) rfl rfl (by kernel_rfl) (by kernel_rfl) (by kernel_rfl) (fun _ _ _ h => h) (by rfl) ?_ (by assumption) ?_); rotate_left; (focus (intro w hSw; obtain ⟨hz0, hz1⟩ := HMK.out w hSw; obtain ⟨hz2, hz3⟩ := HPA.out w hSw; have hz4 := HNA.out w hSw; go_simp; (try with_reducible rfl))); (try simp only [Act.put, List.setIfInBounds_toArray, List.set_cons_zero, List.set_cons_succ]); (refine H_take (i := 27) (some 47) (v := ?_) rfl rfl (by kernel_rfl) (by kernel_rfl) (by kernel_rfl) (fun _ _ _ h => h) (by rfl) ?_ (by assumption) ?_); rotate_left; (focus (intro w hSw; obtain ⟨hz0, hz1⟩ := HMK.out w hSw; obtain ⟨hz2, hz3⟩ := HPA.out w hSw; have hz4 := HNA.out w hSw; go_simp; (try with_reducible rfl))); (try simp only [Act.put, List.setIfInBounds_toArray, List.set_cons_zero, List.set_cons_succ]); (refine H_take (i := 28) (some 48) (v := ?_) rfl rfl (by kernel_rfl) (by kernel_rfl) (by kernel_rfl) (fun _ _ _ h => h) (by rfl) ?_ (by assumption) ?_); rotate_left; (focus (intro w hSw; obtain ⟨hz0, hz1⟩ := HMK.out w hSw; obtain ⟨hz2, hz3⟩ := HPA.out w hSw; have hz4 := HNA.out w hSw; go_simp; (try with_reducible rfl))); (try simp only [Act.put, List.setIfInBounds_toArray, List.set_cons_zero, List.set_cons_succ])
          (refine wpAnyH_ready (rs := [29]) (by kernel_rfl) (by simp) ?_); (refine AllReadyH.cons (o := _) rfl (fun K hK => ?_) AllReadyH.nil); go_simp; (go_at_call 27; (with_reducible refine (has_rd (nb l p) q hn16 HBI.out _).mono ?_); rintro r w6 ⟨rfl, nd6, rfl⟩); (refine hK.out _ _ ?_ (fun hHeld => ?_)); (focus (exact pw_below_drewN hHeld _)); clear hK K; (try simp only [Act.put, List.setIfInBounds_toArray, List.set_cons_zero, List.set_cons_succ])
          (refine H_take (i := 30) (some 50) (v := ?_) rfl rfl (by kernel_rfl) (by kernel_rfl) (by kernel_rfl) (fun _ _ _ h => h) (by rfl) ?_ (by assumption) ?_); rotate_left; (focus (intro w hSw; obtain ⟨hz0, hz1⟩ := HMK.out w hSw; obtain ⟨hz2, hz3⟩ := HPA.out w hSw; have hz4 := HNA.out w hSw; go_simp; (try with_reducible rfl))); (try simp only [Act.put, List.setIfInBounds_toArray, List.set_cons_zero, List.set_cons_succ]); (refine H_take (i := 31) (some 51) (v := ?_) rfl rfl (by kernel_rfl) (by kernel_rfl) (by kernel_rfl) (fun _ _ _ h => h) (by rfl) ?_ (by assumption) ?_); rotate_left; (focus (intro w hSw; obtain ⟨hz0, hz1⟩ := HMK.out w hSw; obtain ⟨hz2, hz3⟩ := HPA.out w hSw; have hz4 := HNA.out w hSw; go_simp; (try with_reducible rfl))); (try simp only [Act.put, List.setIfInBounds_toArray, List.set_cons_zero, List.set_cons_succ]); (refine H_take (i := 32) (some 52) (v := ?_) rfl rfl (by kernel_rfl) (by kernel_rfl) (by kernel_rfl) (fun _ _ _ h => h) (by rfl) ?_ (by assumption) ?_); rotate_left; (focus (intro w hSw; obtain ⟨hz0, hz1⟩ := HMK.out w hSw; obtain ⟨hz2, hz3⟩ := HPA.out w hSw; have hz4 := HNA.out w hSw; go_simp; (try with_reducible rfl))); (try simp only [Act.put, List.setIfInBounds_toArray, List.set_cons_zero, List.set_cons_succ]); (refine H_skip (i := 33) (some 53) rfl rfl (by kernel_rfl) (by kernel_rfl) (by kernel_rfl) (fun _ _ _ h => h) (by rfl) (by assumption) ?_); (try simp only [Act.put, List.setIfInBounds_toArray, List.set_cons_zero, List.set_cons_succ]); (refine H_skip (i := 34) (some 54) rfl rfl (by kernel_rfl) (by kernel_rfl) (by kernel_rfl) (fun _ _ _ h => h) (by rfl) (by assumption) ?_); (try simp only [Act.put, List.setIfInBounds_toArray, List.set_cons_zero, List.set_cons_succ]); (refine H_skip (i := 35) (some 55) rfl rfl (by kernel_rfl) (by kernel_rfl) (by kernel_rfl) (fun _ _ _ h => h) (by rfl) (by assumption) ?_); (try simp only [Act.put, List.setIfInBounds_toArray, List.set_cons_zero, List.set_cons_succ]); (refine H_skip (i := 36) (some 56) rfl rfl (by kernel_rfl) (by kernel_rfl) (by kernel_rfl) (fun _ _ _ h => h) (by rfl) (by assumption) ?_); (try simp only [Act.put, List.setIfInBounds_toArray, List.set_cons_zero, List.set_cons_succ]); (refine H_skip (i := 37) (some 57) rfl rfl (by kernel_rfl) (by kernel_rfl) (by kernel_rfl) (fun _ _ _ h => h) (by rfl) (by assumption) ?_); (try simp only [Act.put, List.setIfInBounds_toArray, List.set_cons_zero, List.set_cons_succ]); (refine H_take (i := 38) (some 58) (v := ?_) rfl rfl (by kernel_rfl) (by kernel_rfl) (by kernel_rfl) (fun _ _ _ h => h) (by rfl) ?_ (by assumption) ?_); rotate_left; (focus (intro w hSw; obtain ⟨hz0, hz1⟩ := HMK.out w hSw; obtain ⟨hz2, hz3⟩ := HPA.out w hSw; have hz4 := HNA.out w hSw; go_simp; (try with_reducible rfl))); (try simp only [Act.put, List.setIfInBounds_toArray, List.set_cons_zero, List.set_cons_succ])
          refine wpAnyH_done (by kernel_rfl) ?_ _
          go_wp2
          go_ret2
          exact ⟨rfl, below_step HB.out hHeld⟩
      · obtain ⟨p, q, rfl, hpq, hq, hbit⟩ := edgeOk_pair hed
        have HBT := Aside0.mk (show (good l && [(p : Int), (q : Int)].all (isBtn l.length)) = true by rw [HG.out, List.all_cons, List.all_cons, List.all_nil, isBtn_of (by omega) (by omega), isBtn_of (by omega) (by omega)]; rfl)
        have HRq := Aside0.mk (show Rd wr (.slice Be 2 ce) [(p : Int), (q : Int)] from HRe.out)
        obtain ⟨ae, rfl, hpa⟩ := two_at (show Rd W (.slice Be 2 ce) [(p : Int), (q : Int)] from HRe0.out)
        have HPW := Aside0.mk hpa
        have HPA := Aside0.mk (fun (w' : World) (hb : Below wr.heap.size wr w') => hpa w' (below_step HB.out hb))
        obtain ⟨an, rfl, hna, hn16⟩ := near_at HRl.out HGG.out (p := p) (by omega)
        have HNA := Aside0.mk hna
        have HBI := Aside0.mk hbit
        have t2 : decide ((q : Int) ≤ (p : Int)) = false := by simp; omega
        have t3 : decide (q ≤ p) = false := decide_eq_false (by omega)
        have t4 : (0 : Int) ≤ (p : Int) := by omega
        have t5 : (p : Int) < (l.length : Int) := by omega
        have wp_ := wf_nat (x := p) (by omega)
        have wq_ := wf_nat (x := q) (by omega)
        have hat : ∀ w, (Instr.arrayAt 62 (.slice (some ae) 2 ce)).run Try.prog w = .ok (.pointer (some ae)) w := fun w => run_arrayAt w 62 _ 2 _ 2 ce Try.underlying62 (Nat.le_refl _)
        have hsx := evTo_succ l E k
        rw [HT.out, he, hed, Bool.true_and, Bool.true_and] at hsx
        have hen := ends_take hlt he
        obtain ⟨mt, hmt⟩ : ∃ m, (E.take k).contains [(p : Int), (q : Int)] = m := ⟨_, rfl⟩
        have HLK := Aside0.mk (fun (w' : World) (hb : Below wr.heap.size wr w') => MetP.look mb (E.take k) (HM.out.below hb) wp_ wq_ hmt)
        have HF := Aside0.mk (fun (h : mt = true) => evList_false HX.out hlt (by rw [he, hmt, h, Bool.not_true, Bool.and_false]))
        rw [hmt] at hsx
        have HSX := Aside0.mk hsx
        have HEN := Aside0.mk hen
        have HTK := Aside0.mk (show E.take (k + 1) = E.take k ++ [[(p : Int), (q : Int)]] by
          rw [List.take_succ_eq_append_getElem hlt]
          rw [List.getD_eq_getElem?_getD, List.getElem?_eq_getElem hlt, Option.getD_some] at he
          rw [he])
        have hkl := List.length_take_le k E
        have hpo : 2 ^ p ||| 2 ^ q < 2 ^ 16 := Nat.or_lt_two_pow (Nat.pow_lt_pow_right (by decide) (by omega)) (Nat.pow_lt_pow_right (by decide) (by omega))
        have hp16 : (2 : Nat) ^ p < 2 ^ 16 := Nat.pow_lt_pow_right (by decide) (by omega)
        have hq16 : (2 : Nat) ^ q < 2 ^ 16 := Nat.pow_lt_pow_right (by decide) (by omega)
        clear hed he HRe hpa hna hbit hsx hmt hen
        go_upto_region 7 with (fail)
        refine wp_region_held_drew (S := Below wr.heap.size wr) (by kernel_rfl) (below_drew1 (Below.refl _ _)) (fun hHeld => ?_)
        (refine H_take (i := 0) (some 20) (v := ?_) rfl rfl (by kernel_rfl) (by kernel_rfl) (by kernel_rfl) (fun _ _ _ h => h) (by rfl) ?_ (by assumption) ?_); rotate_left; (focus (intro w hSw; obtain ⟨hz0, hz1⟩ := HMK.out w hSw; go_simp; (try with_reducible rfl))); (try simp only [Act.put, List.setIfInBounds_toArray, List.set_cons_zero, List.set_cons_succ]); (refine H_take (i := 1) (some 21) (v := ?_) rfl rfl (by kernel_rfl) (by kernel_rfl) (by kernel_rfl) (fun _ _ _ h => h) (by rfl) ?_ (by assumption) ?_); rotate_left; (focus (intro w hSw; obtain ⟨hz0, hz1⟩ := HMK.out w hSw; go_simp; (try with_reducible rfl))); (try simp only [Act.put, List.setIfInBounds_toArray, List.set_cons_zero, List.set_cons_succ]); (refine H_take (i := 2) (some 22) (v := ?_) rfl rfl (by kernel_rfl) (by kernel_rfl) (by kernel_rfl) (fun _ _ _ h => h) (by rfl) ?_ (by assumption) ?_); rotate_left; (focus (intro w hSw; obtain ⟨hz0, hz1⟩ := HMK.out w hSw; go_simp; (try with_reducible rfl))); (try simp only [Act.put, List.setIfInBounds_toArray, List.set_cons_zero, List.set_cons_succ]); (refine H_take (i := 3) (some 23) (v := ?_) rfl rfl (by kernel_rfl) (by kernel_rfl) (by kernel_rfl) (fun _ _ _ h => h) (by rfl) ?_ (by assumption) ?_); rotate_left; (focus (intro w hSw; obtain ⟨hz0, hz1⟩ := HMK.out w hSw; go_simp; (try with_reducible rfl))); (try simp only [Act.put, List.setIfInBounds_toArray, List.set_cons_zero, List.set_cons_succ]); (refine H_take (i := 4) (some 24) (v := ?_) rfl rfl (by kernel_rfl) (by kernel_rfl) (by kernel_rfl) (fun _ _ _ h => h) (by rfl) ?_ (by assumption) ?_); rotate_left; (focus (intro w hSw; obtain ⟨hz0, hz1⟩ := HMK.out w hSw; go_simp; (try with_reducible rfl))); (try simp only [Act.put, List.setIfInBounds_toArray, List.set_cons_zero, List.set_cons_succ]); (refine H_take (i := 5) (some 25) (v := ?_) rfl rfl (by kernel_rfl) (by kernel_rfl) (by kernel_rfl) (fun _ _ _ h => h) (by rfl) ?_ (by assumption) ?_); rotate_left; (focus (intro w hSw; obtain ⟨hz0, hz1⟩ := HMK.out w hSw; go_simp; (try with_reducible rfl))); (try simp only [Act.put, List.setIfInBounds_toArray, List.set_cons_zero, List.set_cons_succ])
        (refine wpAnyH_ready (rs := [6]) (by kernel_rfl) (by simp) ?_); (refine AllReadyH.cons (o := _) rfl (fun K hK => ?_) AllReadyH.nil); go_simp; (go_at_call 39; (with_reducible refine (hasButton_rd own (HRl.out.below hHeld) (HRq.out.below hHeld) HBT.out).mono ?_); rintro r w5 ⟨rfl, hb5⟩); (refine hK.out _ _ ?_ (fun hHeld => ?_)); (focus (exact below_step hHeld hb5)); clear hK K; (try simp only [Act.put, List.setIfInBounds_toArray, List.set_cons_zero, List.set_cons_succ])
        (refine H_take (i := 7) (some 27) (v := ?_) rfl rfl (by kernel_rfl) (by kernel_rfl) (by kernel_rfl) (fun _ _ _ h => h) (by rfl) ?_ (by assumption) ?_); rotate_left; (focus (intro w hSw; obtain ⟨hz0, hz1⟩ := HMK.out w hSw; obtain ⟨hz2, hz3⟩ := HPA.out w hSw; have hz4 := HNA.out w hSw; go_simp; (try with_reducible rfl))); (try simp only [Act.put, List.setIfInBounds_toArray, List.set_cons_zero, List.set_cons_succ]); (refine H_take (i := 8) (some 28) (v := ?_) rfl rfl (by kernel_rfl) (by kernel_rfl) (by kernel_rfl) (fun _ _ _ h => h) (by rfl) ?_ (by assumption) ?_); rotate_left; (focus (intro w hSw; obtain ⟨hz0, hz1⟩ := HMK.out w hSw; obtain ⟨hz2, hz3⟩ := HPA.out w hSw; have hz4 := HNA.out w hSw; go_simp; (try with_reducible rfl))); (try simp only [Act.put, List.setIfInBounds_toArray, List.set_cons_zero, List.set_cons_succ]); (refine H_take (i := 9) (some 29) (v := ?_) rfl rfl (by kernel_rfl) (by kernel_rfl) (by kernel_rfl) (fun _ _ _ h => h) (by rfl) ?_ (by assumption) ?_); rotate_left; (focus (intro w hSw; obtain ⟨hz0, hz1⟩ := HMK.out w hSw; obtain ⟨hz2, hz3⟩ := HPA.out w hSw; have hz4 := HNA.out w hSw; go_simp; (try with_reducible rfl))); (try simp only [Act.put, List.setIfInBounds_toArray, List.set_cons_zero, List.set_cons_succ]); (refine H_take (i := 10) (some 30) (v := ?_) rfl rfl (by kernel_rfl) (by kernel_rfl) (by kernel_rfl) (fun _ _ _ h => h) (by rfl) ?_ (by assumption) ?_); rotate_left; (focus (intro w hSw; obtain ⟨hz0, hz1⟩ := HMK.out w hSw; obtain ⟨hz2, hz3⟩ := HPA.out w hSw; have hz4 := HNA.out w hSw; go_simp; (try with_reducible rfl))); (try simp only [Act.put, List.setIfInBounds_toArray, List.set_cons_zero, List.set_cons_succ]); (refine H_take (i := 11) (some 31) (v := ?_) rfl rfl (by kernel_rfl) (by kernel_rfl) (by kernel_rfl) (fun _ _ _ h => h) (by rfl) ?_ (by assumption) ?_); rotate_left; (focus (intro w hSw; obtain ⟨hz0, hz1⟩ := HMK.out w hSw; obtain ⟨hz2, hz3⟩ := HPA.out w hSw; have hz4 := HNA.out w hSw; go_simp; (try with_reducible rfl))); (try simp only [Act.put, List.setIfInBounds_toArray, List.set_cons_zero, List.set_cons_succ]); (refine H_take (i := 12) (some 32) (v := ?_) rfl rfl (by kernel_rfl) (by kernel_rfl) (by kernel_rfl) (fun _ _ _ h => h) (by rfl) ?_ (by assumption) ?_); rotate_left; (focus (intro w hSw; obtain ⟨hz0, hz1⟩ := HMK.out w hSw; obtain ⟨hz2, hz3⟩ := HPA.out w hSw; have hz4 := HNA.out w hSw; go_simp; (try with_reducible rfl))); (try simp only [Act.put, List.setIfInBounds_toArray, List.set_cons_zero, List.set_cons_succ]); (refine H_take (i := 13) (some 33) (v := ?_) rfl rfl (by kernel_rfl) (by kernel_rfl) (by kernel_rfl) (fun _ _ _ h => h) (by rfl) ?_ (by assumption) ?_); rotate_left; (focus (intro w hSw; obtain ⟨hz0, hz1⟩ := HMK.out w hSw; obtain ⟨hz2, hz3⟩ := HPA.out w hSw; have hz4 := HNA.out w hSw; go_simp; (try with_reducible rfl))); (try simp only [Act.put, List.setIfInBounds_toArray, List.set_cons_zero, List.set_cons_succ]); (refine H_take (i := 14) (some 34) (v := ?_) rfl rfl (by kernel_rfl) (by kernel_rfl) (by kernel_rfl) (fun _ _ _ h => h) (by rfl) ?_ (by assumption) ?_); rotate_left; (focus (intro w hSw; obtain ⟨hz0, hz1⟩ := HMK.out w hSw; obtain ⟨hz2, hz3⟩ := HPA.out w hSw; have hz4 := HNA.out w hSw; go_simp; (try with_reducible rfl))); (try simp only [Act.put, List.setIfInBounds_toArray, List.set_cons_zero, List.set_cons_succ]); (refine H_take (i := 15) (some 35) (v := ?_) rfl rfl (by kernel_rfl) (by kernel_rfl) (by kernel_rfl) (fun _ _ _ h => h) (by rfl) ?_ (by assumption) ?_); rotate_left; (focus (intro w hSw; obtain ⟨hz0, hz1⟩ := HMK.out w hSw; obtain ⟨hz2, hz3⟩ := HPA.out w hSw; have hz4 := HNA.out w hSw; go_simp; (try with_reducible rfl))); (try simp only [Act.put, List.setIfInBounds_toArray, List.set_cons_zero, List.set_cons_succ]); (refine H_take (i := 16) (some 36) (v := ?_) rfl rfl (by kernel_rfl) (by kernel_rfl) (by kernel_rfl) (fun _ _ _ h => h) (by rfl) ?_ (by assumption) ?_); rotate_left; (focus (intro w hSw; obtain ⟨hz0, hz1⟩ := HMK.out w hSw; obtain ⟨hz2, hz3⟩ := HPA.out w hSw; have hz4 := HNA.out w hSw; go_simp; (try with_reducible rfl))); (try simp only [Act.put, List.setIfInBounds_toArray, List.set_cons_zero, List.set_cons_succ]); (refine H_take (i := 17) (some 37) (v := ?_) rfl rfl (by kernel_rfl) (by kernel_rfl) (by kernel_rfl) (fun _ _ _ h => h) (by rfl) ?_ (by assumption) ?_); rotate_left; (focus (intro w hSw; obtain ⟨hz0, hz1⟩ := HMK.out w hSw; obtain ⟨hz2, hz3⟩ := HPA.out w hSw; have hz4 := HNA.out w hSw; go_simp; (try with_reducible rfl))); (try simp only [Act.put, List.setIfInBounds_toArray, List.set_cons_zero, List.set_cons_succ]); (refine H_take (i := 18) (some 38) (v := ?_) rfl rfl (by kernel_rfl) (by kernel_rfl) (by kernel_rfl) (fun _ _ _ h => h) (by rfl) ?_ (by assumption) ?_); rotate_left; (focus (intro w hSw; obtain ⟨hz0, hz1⟩ := HMK.out w hSw; obtain ⟨hz2, hz3⟩ := HPA.out w hSw; have hz4 := HNA.out w hSw; go_simp; (try with_reducible rfl))); (try simp only [Act.put, List.setIfInBounds_toArray, List.set_cons_zero, List.set_cons_succ]); (refine H_take (i := 19) (some 39) (v := ?_) rfl rfl (by kernel_rfl) (by kernel_rfl) (by kernel_rfl) (fun _ _ _ h => h) (by rfl) ?_ (by assumption) ?_); rotate_left; (focus (intro w hSw; obtain ⟨hz0, hz1⟩ := HMK.out w hSw; obtain ⟨hz2, hz3⟩ := HPA.out w hSw; have hz4 := HNA.out w hSw; go_simp; (try with_reducible rfl))); (try simp only [Act.put, List.setIfInBounds_toArray, List.set_cons_zero, List.set_cons_succ]); (refine H_take (i := 20) (some 40) (v := ?_) rfl rfl (by kernel_rfl) (by kernel_rfl) (by kernel_rfl) (fun _ _ _ h => h) (by rfl) ?_ (by assumption) ?_); rotate_left; (focus (intro w hSw; obtain ⟨hz0, hz1⟩ := HMK.out w hSw; obtain ⟨hz2, hz3⟩ := HPA.out w hSw; have hz4 := HNA.out w hSw; go_simp; (try with_reducible rfl))); (try simp only [Act.put, List.setIfInBounds_toArray, List.set_cons_zero, List.set_cons_succ]); (refine H_take (i := 21) (some 41) (v := ?_) rfl rfl (by kernel_rfl) (by kernel_rfl) (by kernel_rfl) (fun _ _ _ h => h) (by rfl) ?_ (by assumption) ?_); rotate_left; (focus (intro w hSw; obtain ⟨hz0, hz1⟩ := HMK.out w hSw; obtain ⟨hz2, hz3⟩ := HPA.out w hSw; have hz4 := HNA.out w hSw; go_simp; (try with_reducible rfl))); (try simp only [Act.put, List.setIfInBounds_toArray, List.set_cons_zero, List.set_cons_succ]); (refine H_take (i := 22) (some 42) (v := ?_) rfl rfl (by kernel_rfl) (by kernel_rfl) (by kernel_rfl) (fun _ _ _ h => h) (by rfl) ?_ (by assumption) ?_); rotate_left; (focus (intro w hSw; obtain ⟨hz0, hz1⟩ := HMK.out w hSw; obtain ⟨hz2, hz3⟩ := HPA.out w hSw; have hz4 := HNA.out w hSw; go_simp; (try with_reducible rfl))); (try simp only [Act.put, List.setIfInBounds_toArray, List.set_cons_zero, List.set_cons_succ]); (refine H_take (i := 23) (some 43) (v := ?_) rfl rfl (by kernel_rfl) (by kernel_rfl) (by kernel_rfl) (fun _ _ _ h => h) (by rfl) ?_ (by assumption) ?_); rotate_left; (focus (intro w hSw; obtain ⟨hz0, hz1⟩ := HMK.out w hSw; obtain ⟨hz2, hz3⟩ := HPA.out w hSw; have hz4 := HNA.out w hSw; go_simp; (try with_reducible rfl))); (try simp only [Act.put, List.setIfInBounds_toArray, List.set_cons_zero, List.set_cons_succ]); (refine H_take (i := 24) (some 44) (v := ?_) rfl rfl (by kernel_rfl) (by kernel_rfl) (by kernel_rfl) (fun _ _ _ h => h) (by rfl) ?_ (by assumption) ?_); rotate_left; (focus (intro w hSw; obtain ⟨hz0, hz1⟩ := HMK.out w hSw; obtain ⟨hz2, hz3⟩ := HPA.out w hSw; have hz4 := HNA.out w hSw; go_simp; (try with_reducible rfl))); (try simp only [Act.put, List.setIfInBounds_toArray, List.set_cons_zero, List.set_cons_succ]); (refine H_take (i := 25) (some 45) (v := ?_) rfl rfl (by kernel_rfl) (by kernel_rfl) (by kernel_rfl) (fun _ _ _ h => h) (by rfl) ?_ (by assumption) ?_); rotate_left; (focus (intro w hSw; obtain ⟨hz0, hz1⟩ := HMK.out w hSw; obtain ⟨hz2, hz3⟩ := HPA.out w hSw; have hz4 := HNA.out w hSw; go_simp; (try with_reducible rfl))); (try simp only [Act.put, List.setIfInBounds_toArray, List.set_cons_zero, List.set_cons_succ]); (refine H_take (i := 26) (some 46) (v := ?_) rfl rfl (by kernel_rfl) (by kernel_rfl) (by kernel_rfl) (fun _ _ _ h => h) (by rfl) ?_ (by assumption) ?_); rotate_left; (focus (intro w hSw; obtain ⟨hz0, hz1⟩ := HMK.out w hSw; obtain ⟨hz2, hz3⟩ := HPA.out w hSw; have hz4 := HNA.out w hSw; go_simp; (try with_reducible rfl))); (try simp only [Act.put, List.setIfInBounds_toArray, List.set_cons_zero, List.set_cons_succ]); (refine H_take (i := 27) (some 47) (v := ?_) rfl rfl (by kernel_rfl) (by kernel_rfl) (by kernel_rfl) (fun _ _ _ h => h) (by rfl) ?_ (by assumption) ?_); rotate_left; (focus (intro w hSw; obtain ⟨hz0, hz1⟩ := HMK.out w hSw; obtain ⟨hz2, hz3⟩ := HPA.out w hSw; have hz4 := HNA.out w hSw; go_simp; (try with_reducible rfl))); (try simp only [Act.put, List.setIfInBounds_toArray, List.set_cons_zero, List.set_cons_succ]); (refine H_take (i := 28) (some 48) (v := ?_) rfl rfl (by kernel_rfl) (by kernel_rfl) (by kernel_rfl) (fun _ _ _ h => h) (by rfl) ?_ (by assumption) ?_); rotate_left; (focus (intro w hSw; obtain ⟨hz0, hz1⟩ := HMK.out w hSw; obtain ⟨hz2, hz3⟩ := HPA.out w hSw; have hz4 := HNA.out w hSw; go_simp; (try with_reducible rfl))); (try simp only [Act.put, List.setIfInBounds_toArray, List.set_cons_zero, List.set_cons_succ])
        (refine wpAnyH_ready (rs := [29]) (by kernel_rfl) (by simp) ?_); (refine AllReadyH.cons (o := _) rfl (fun K hK => ?_) AllReadyH.nil); go_simp; (go_at_call 27; (with_reducible refine (has_rd (nb l p) q hn16 HBI.out _).mono ?_); rintro r w6 ⟨rfl, nd6, rfl⟩); (refine hK.out _ _ ?_ (fun hHeld => ?_)); (focus (exact pw_below_drewN hHeld _)); clear hK K; (try simp only [Act.put, List.setIfInBounds_toArray, List.set_cons_zero, List.set_cons_succ])
        (refine H_take (i := 30) (some 50) (v := ?_) rfl rfl (by kernel_rfl) (by kernel_rfl) (by kernel_rfl) (fun _ _ _ h => h) (by rfl) ?_ (by assumption) ?_); rotate_left; (focus (intro w hSw; obtain ⟨hz0, hz1⟩ := HMK.out w hSw; obtain ⟨hz2, hz3⟩ := HPA.out w hSw; have hz4 := HNA.out w hSw; have hz5 := HLK.out w hSw; go_simp; (try with_reducible rfl))); (try simp only [Act.put, List.setIfInBounds_toArray, List.set_cons_zero, List.set_cons_succ]); (refine H_take (i := 31) (some 51) (v := ?_) rfl rfl (by kernel_rfl) (by kernel_rfl) (by kernel_rfl) (fun _ _ _ h => h) (by rfl) ?_ (by assumption) ?_); rotate_left; (focus (intro w hSw; obtain ⟨hz0, hz1⟩ := HMK.out w hSw; obtain ⟨hz2, hz3⟩ := HPA.out w hSw; have hz4 := HNA.out w hSw; have hz5 := HLK.out w hSw; go_simp; (try with_reducible rfl))); (try simp only [Act.put, List.setIfInBounds_toArray, List.set_cons_zero, List.set_cons_succ]); (refine H_take (i := 32) (some 52) (v := ?_) rfl rfl (by kernel_rfl) (by kernel_rfl) (by kernel_rfl) (fun _ _ _ h => h) (by rfl) ?_ (by assumption) ?_); rotate_left; (focus (intro w hSw; obtain ⟨hz0, hz1⟩ := HMK.out w hSw; obtain ⟨hz2, hz3⟩ := HPA.out w hSw; have hz4 := HNA.out w hSw; have hz5 := HLK.out w hSw; go_simp; (try with_reducible rfl))); (try simp only [Act.put, List.setIfInBounds_toArray, List.set_cons_zero, List.set_cons_succ]); (refine H_take (i := 33) (some 53) (v := ?_) rfl rfl (by kernel_rfl) (by kernel_rfl) (by kernel_rfl) (fun _ _ _ h => h) (by rfl) ?_ (by assumption) ?_); rotate_left; (focus (intro w hSw; obtain ⟨hz0, hz1⟩ := HMK.out w hSw; obtain ⟨hz2, hz3⟩ := HPA.out w hSw; have hz4 := HNA.out w hSw; have hz5 := HLK.out w hSw; go_simp; (try with_reducible rfl))); (try simp only [Act.put, List.setIfInBounds_toArray, List.set_cons_zero, List.set_cons_succ]); (refine H_take (i := 34) (some 54) (v := ?_) rfl rfl (by kernel_rfl) (by kernel_rfl) (by kernel_rfl) (fun _ _ _ h => h) (by rfl) ?_ (by assumption) ?_); rotate_left; (focus (intro w hSw; obtain ⟨hz0, hz1⟩ := HMK.out w hSw; obtain ⟨hz2, hz3⟩ := HPA.out w hSw; have hz4 := HNA.out w hSw; have hz5 := HLK.out w hSw; go_simp; (try with_reducible rfl))); (try simp only [Act.put, List.setIfInBounds_toArray, List.set_cons_zero, List.set_cons_succ]); (refine H_take (i := 35) (some 55) (v := ?_) rfl rfl (by kernel_rfl) (by kernel_rfl) (by kernel_rfl) (fun _ _ _ h => h) (by rfl) ?_ (by assumption) ?_); rotate_left; (focus (intro w hSw; obtain ⟨hz0, hz1⟩ := HMK.out w hSw; obtain ⟨hz2, hz3⟩ := HPA.out w hSw; have hz4 := HNA.out w hSw; have hz5 := HLK.out w hSw; go_simp; (try with_reducible rfl))); (try simp only [Act.put, List.setIfInBounds_toArray, List.set_cons_zero, List.set_cons_succ]); (refine H_take (i := 36) (some 56) (v := ?_) rfl rfl (by kernel_rfl) (by kernel_rfl) (by kernel_rfl) (fun _ _ _ h => h) (by rfl) ?_ (by assumption) ?_); rotate_left; (focus (intro w hSw; obtain ⟨hz0, hz1⟩ := HMK.out w hSw; obtain ⟨hz2, hz3⟩ := HPA.out w hSw; have hz4 := HNA.out w hSw; have hz5 := HLK.out w hSw; go_simp; (try with_reducible rfl))); (try simp only [Act.put, List.setIfInBounds_toArray, List.set_cons_zero, List.set_cons_succ]); (refine H_take (i := 37) (some 57) (v := ?_) rfl rfl (by kernel_rfl) (by kernel_rfl) (by kernel_rfl) (fun _ _ _ h => h) (by rfl) ?_ (by assumption) ?_); rotate_left; (focus (intro w hSw; obtain ⟨hz0, hz1⟩ := HMK.out w hSw; obtain ⟨hz2, hz3⟩ := HPA.out w hSw; have hz4 := HNA.out w hSw; have hz5 := HLK.out w hSw; go_simp; (try with_reducible rfl))); (try simp only [Act.put, List.setIfInBounds_toArray, List.set_cons_zero, List.set_cons_succ]); (refine H_take (i := 38) (some 58) (v := ?_) rfl rfl (by kernel_rfl) (by kernel_rfl) (by kernel_rfl) (fun _ _ _ h => h) (by rfl) ?_ (by assumption) ?_); rotate_left; (focus (intro w hSw; obtain ⟨hz0, hz1⟩ := HMK.out w hSw; obtain ⟨hz2, hz3⟩ := HPA.out w hSw; have hz4 := HNA.out w hSw; have hz5 := HLK.out w hSw; go_simp; (try with_reducible rfl))); (try simp only [Act.put, List.setIfInBounds_toArray, List.set_cons_zero, List.set_cons_succ])
        refine wpAnyH_done (by kernel_rfl) ?_ _
        have hpaq := HPA.out _ hHeld
        obtain ⟨hz2, hz3⟩ := hpaq
        have HMw := Aside0.mk (HM.out.below hHeld)
        have HBw := Aside0.mk (below_step HB.out hHeld)
        have HXw := Aside0.mk (blk_below X.out hHeld)
        clear HM HB X hX0 hX1 fX0 fX1 HMK HPA HNA HLK HRl HRe0 HRq HBT HBI HT hc1 hHeld
        cases mt
        · go_wp2_with (refine MetP.store rfl (.tmp 59) (.tmp 62) (.const (.bool true)) rfl mb (E.take k) rfl HMw.out (p : Int) (q : Int) rfl rfl wp_ wq_ (by omega) ?_; intro w7 hm7 hg7; have HM7 := Aside0.mk hm7; have HB7 := Aside0.mk (HBw.out.grown hg7 (Below.size HBw.out) (fun k hk => by injection hk with hk; have := HMB.out; omega)); have HX7 := Aside0.mk ((hg7.block W.heap.size (blk_lt HXw.out) (by have := HMB.out; intro e; injection e with e; omega)).trans HXw.out); clear hm7 hg7 hz2 hz3 HMw HBw HXw)
          obtain ⟨hy2, hy3⟩ := HPW.out _ HB7.out
          go_quiet (fail)
          go_wp2
          go_roundw
          case rel => exact ⟨k + 1, by omega, by go_num, by rw [ends_bits hes (by omega) (by omega) HEN.out], ⟨by rw [HSX.out]; rfl⟩, ⟨by rw [HTK.out]; exact (HM7.out).below (pw_below_drewN (Below.refl _ _) _)⟩, ⟨blk_drewN HX7.out _⟩, ⟨pw_below_drewN HB7.out _⟩⟩
          case measure => simp [intOf]; omega
        · obtain ⟨rfl, rfl⟩ := HF.out rfl
          go_wp2
          go_ret2
          exact ⟨rfl, HBw.out⟩
    · obtain rfl : k = E.length := by omega
      obtain ⟨hx1, rfl⟩ := HGX.out HT.out
      subst hx1
      rw [List.take_length] at *
      go_wp2
      go_ret2
      exact ⟨ret_bb (by rw [Bool.eq_iff_iff, beq_iff_eq, beq_iff_eq]; omega), HB.out⟩
theorem grGood_rd {W : World} {v : Value} {l : List Int} (own : Bool) {b : Bool} (h : Rd W v l) (hb : good l = b) : Calls Try.prog 34 #[.agg #[v, .bool own]] W fun e W' => e = .returned (.bool b) ∧ Below W.heap.size W W' := by
  obtain ⟨A, c, rfl, hc, hC, hl⟩ := h
  obtain ⟨K, hK⟩ := ev_get (spec_grGood.ev l own (by omega))
  exact spec_grGood.calls K A c l own b W hC hc ((hK K (Nat.le_refl _)).trans (by rw [hb]))
theorem l1In_rd (n : Nat) (x : Int) (w : World) : Calls Try.prog 40 #[.int .i64 x, .int .i64 0, .int .i64 ((n : Int) - 1)] w fun e w' => e = .returned (.bool (isBtn n x)) ∧ ∃ m, w' = w.drewN m :=
  (spec_l1In.calls x 0 ((n : Int) - 1) (isBtn n x) w (spec_l1In.eq _ _ _)).mono fun _ _ ⟨he, hd⟩ => ⟨he, hd.out⟩
theorem grIn_rd (a t : Nat) (ha : a < 65536) {q : Bool} (hq : a.testBit t = q) : ∀ w, Calls Try.prog 41 #[.int .i64 (a : Int), .int .i64 (t : Int)] w fun r w' => r = .returned (.bool q) ∧ ∃ n, w' = w.drewN n := fun w =>
  (spec_grIn.calls (a : Int) (t : Int) q w ((spec_grIn.eq (a : Int) (t : Int) (by omega) (by omega) (by omega)).trans (by unfold bit; rw [Int.toNat_natCast, Int.toNat_natCast, hq]))).mono fun _ _ ⟨he, hd⟩ => ⟨he, hd.out⟩
theorem paEven_rd {W : World} {v v2 : Value} {l : List Int} {E : List (List Int)} (own : Bool) (h : Rd W v l) (h2 : RdE W v2 E) (hE : ∀ e ∈ E, ∃ x y : Nat, e = [(x : Int), (y : Int)] ∧ x < 16 ∧ y < 16) (hl2 : E.length ≤ 1000) : Calls Try.prog 42 #[.agg #[v, .bool own], v2] W fun e W' => e = .returned (.bool (endsX E == 0)) ∧ Below W.heap.size W W' := by
  obtain ⟨A, c, rfl, hc, hC, hl⟩ := h
  obtain ⟨A2, c2, rfl, hc2, hC2, _⟩ := h2
  obtain ⟨K, hK⟩ := ev_get (spec_paEven.ev l own E hE hl2)
  exact spec_paEven.calls K A c l own A2 c2 E _ W hC hc hC2 hc2 (hK K (Nat.le_refl _))
theorem evTo_pairs {l : List Int} (hl : l.length ≤ 16) {E : List (List Int)} (h : evTo l E E.length = true) : ∀ e ∈ E, ∃ x y : Nat, e = [(x : Int), (y : Int)] ∧ x < 16 ∧ y < 16 := fun e he => by
  obtain ⟨j, hj, rfl⟩ := List.mem_iff_getElem.1 he
  have h2 := evTo_edge h hj
  rw [List.getD_eq_getElem?_getD, List.getElem?_eq_getElem hj, Option.getD_some] at h2
  obtain ⟨x, y, hxy, h3, h4, _⟩ := edgeOk_pair h2
  exact ⟨x, y, hxy, by omega, by omega⟩
theorem not_in {E : List (List Int)} {k : Nat} (hk : k ≤ E.length) {e : List Int} (h : ∀ i, i < k → E.getD i [] ≠ e) : (E.take k).contains e = false := by
  rw [← Bool.not_eq_true, List.contains_iff_mem]
  intro hm
  obtain ⟨j, hj, he⟩ := List.mem_iff_getElem.1 hm
  rw [List.length_take] at hj
  rw [List.getElem_take] at he
  refine h j (by omega) ?_
  rw [List.getD_eq_getElem?_getD, List.getElem?_eq_getElem (by omega), Option.getD_some, he]
theorem is_in {E : List (List Int)} {k j : Nat} (hk : k ≤ E.length) (hj : j < k) {e : List Int} (h : E.getD j [] = e) : (E.take k).contains e = true := by
  rw [List.contains_iff_mem, List.mem_iff_getElem]
  rw [List.getD_eq_getElem?_getD, List.getElem?_eq_getElem (by omega), Option.getD_some] at h
  exact ⟨j, by rw [List.length_take]; omega, by rw [List.getElem_take]; exact h⟩
set_option maxRecDepth 100000 in
set_option maxHeartbeats 8000000 in
theorem specIsEvenEdges_any {W : World} {v v2 : Value} {l : List Int} {E : List (List Int)} (own : Bool) {x ok : Bool} (h : Rd W v l) (h2 : RdE W v2 E) (hE : E.length ≤ 200) (hl : ∀ e ∈ E, e.length ≤ 1000) (hr : evListR l E = (x, ok)) :
    Calls Try.prog 15 #[.agg #[v, .bool own], v2] W fun e W' => e = .returned (.tuple #[.bool x, .bool ok]) ∧ Below W.heap.size W W' := by
  have hu := Try.underlying26
  obtain ⟨A, c, rfl⟩ := h.slice
  obtain ⟨A2, c2, rfl⟩ := h2.slice
  have HB := Aside0.mk (below_alloc (Below.refl W.heap.size W) (.cells #[.slice A l.length c, .bool own] 26 (0, 0)))
  have X := Aside0.mk (blk_new W (.cells #[.slice A l.length c, .bool own] 26 (0, 0)))
  have R := Aside0.mk (h.alloc (.cells #[.slice A l.length c, .bool own] 26 (0, 0)))
  have hcap := h2.cells.2.1
  have HR := Aside0.mk h
  have HE := Aside0.mk h2
  have HX := Aside0.mk hr
  have HL := Aside0.mk hl
  have tg : decide ((E.length : Int) > 200) = false := decide_eq_false (by omega)
  have tg2 : decide (200 < E.length) = false := decide_eq_false (by omega)
  have tg3 : decide ((200 : Int) < (E.length : Int)) = false := decide_eq_false (by omega)
  cases hg : good l
  · rw [evList_none hg] at hr
    injection hr with e1 e2
    subst e1 e2
    have HG := Aside0.mk hg
    clear h h2 hg hl
    go_enter Try.func15, Try.ntmps15
    go_upto_region 1 with (fail)
    generalize W.alloc (.cells #[.slice A l.length c, .bool own] 26 (0, 0)) = w1 at *
    (try clear hX0 hX1 fX0 fX1); have hX0 := (blk_cell X.out 0).trans rfl; have hX1 := (blk_cell X.out 1).trans rfl; have fX0 := blk_frozen X.out 0; have fX1 := blk_frozen X.out 1
    go_wp2_with (go_at_call 34; (with_reducible refine (grGood_rd own R.out HG.out).mono ?_); rintro e w2 ⟨rfl, hb⟩; have nB := Aside0.mk (below_step HB.out hb); clear X HB R hb hX0 hX1 fX0 fX1; have HB := nB; clear nB)
    go_ret2
    exact ⟨rfl, HB.out⟩
  have HG := Aside0.mk hg
  have hG := (good_iff l).1 hg
  have hg16 := hG.top
  have hgoodx : evTo l E E.length = true → x = (endsX E == 0) ∧ ok = true := fun h => by
    rw [evList_good hg h] at hr
    injection hr with e1 e2
    exact ⟨e1.symm, e2.symm⟩
  have HGX := Aside0.mk hgoodx
  have HGG := Aside0.mk hG
  have hw1 : IntKind.i64.wrap ((l.length : Int) - 1) = (l.length : Int) - 1 := wraps_i64 _ (by have := hG.one; omega) (by omega)
  have HW1 := Aside0.mk hw1
  clear h h2 hg hG hl hr hgoodx hw1
  go_enter Try.func15, Try.ntmps15
  go_upto_region 1 with (fail)
  generalize W.alloc (.cells #[.slice A l.length c, .bool own] 26 (0, 0)) = w1 at *
  (try clear hX0 hX1 fX0 fX1); have hX0 := (blk_cell X.out 0).trans rfl; have hX1 := (blk_cell X.out 1).trans rfl; have fX0 := blk_frozen X.out 0; have fX1 := blk_frozen X.out 1
  go_upto_region 5 with (go_at_call 34; (with_reducible refine (grGood_rd own R.out HG.out).mono ?_); rintro e w2 ⟨rfl, hb⟩; have nX := Aside0.mk (blk_below X.out hb); have nB := Aside0.mk (below_step HB.out hb); clear X HB R hb hX0 hX1 fX0 fX1; have X := nX; have HB := nB; clear nX nB; (try clear hX0 hX1 fX0 fX1); have hX0 := (blk_cell X.out 0).trans rfl; have hX1 := (blk_cell X.out 1).trans rfl; have fX0 := blk_frozen X.out 0; have fX1 := blk_frozen X.out 1)
  go_loopw [24] (fun v24 wr => ∃ k : Nat, k ≤ E.length ∧ v24 = .int .i64 (k : Int) ∧ Aside0 (evTo l E k = true) ∧ Aside0 (wr.heap[W.heap.size]? = some (.cells #[.slice A l.length c, .bool own] 26 (0, 0))) ∧ Aside0 (Below W.heap.size W wr)) (fun v24 _ => E.length - (intOf v24).toNat)
  case atStart => exact ⟨0, Nat.zero_le _, rfl, ⟨rfl⟩, X, HB⟩
  case round =>
    clear HB X hX0 hX1 fX0 fX1
    obtain ⟨k, hk, rfl, HT, X, HB⟩ := hrel
    (try clear hX0 hX1 fX0 fX1); have hX0 := (blk_cell X.out 0).trans rfl; have hX1 := (blk_cell X.out 1).trans rfl; have fX0 := blk_frozen X.out 0; have fX1 := blk_frozen X.out 1
    by_cases hlt : k < E.length
    · obtain ⟨e, he⟩ : ∃ e, E.getD k [] = e := ⟨_, rfl⟩
      have hel : e.length ≤ 1000 := HL.out e (by rw [← he, List.getD_eq_getElem?_getD, List.getElem?_eq_getElem hlt, Option.getD_some]; exact List.getElem_mem _)
      obtain ⟨ad, Be, ce, rfl, hc0, hre⟩ := HE.out.row hlt he (by omega)
      have hc1 : wr.cell? (ad.add k) = some (.slice Be e.length ce) := cell_up HB.out hc0
      have HRe0 := Aside0.mk hre
      have HRl := Aside0.mk (HR.out.below HB.out)
      have hw1 := HW1.out
      clear hc0 hre
      cases hed : edgeOk l e
      · obtain ⟨rfl, rfl⟩ := evList_false HX.out hlt (by rw [he]; exact not_edge hed)
        rcases edge_why hed with hne | ⟨a, b, rfl, hbt⟩ | ⟨p, q, rfl, hp, hq, hpq⟩ | ⟨p, q, rfl, hpq, hq, hbit⟩
        · have t1 : ((e.length : Int) != 2) = true := by simp; omega
          clear hed he hne
          go_upto_region 7 with (fail)
          go_quiet (fail)
          go_wp2
          go_ret2
          exact ⟨rfl, by (repeat (first | exact HB.out | refine pw_below_drewN ?_ _ | refine below_drew1 ?_))⟩
        · obtain ⟨ae, rfl, hpa⟩ := two_at (show Rd W (.slice Be 2 ce) [a, b] from HRe0.out)
          obtain ⟨hz2, hz3⟩ := hpa _ HB.out
          clear hed he hpa
          cases ha : isBtn l.length a
          all_goals
            have hb0 := hbt
            rw [ha] at hb0
            (try rw [Bool.true_and] at hb0)
            clear hbt
            go_upto_region 7 with (fail)
            go_quiet ((go_at_call 40; exact Calls.quiet_of (l1In_rd l.length _ _)))
            go_wp2
            go_ret2
            exact ⟨rfl, by (repeat (first | exact HB.out | refine pw_below_drewN ?_ _ | refine below_drew1 ?_))⟩
        · obtain ⟨ae, rfl, hpa⟩ := two_at (show Rd W (.slice Be 2 ce) [(p : Int), (q : Int)] from HRe0.out)
          obtain ⟨hz2, hz3⟩ := hpa _ HB.out
          have ha := isBtn_of (n := l.length) (i := (p : Int)) (by omega) (by omega)
          have hb0 := isBtn_of (n := l.length) (i := (q : Int)) (by omega) (by omega)
          have t2 : decide ((q : Int) ≤ (p : Int)) = true := decide_eq_true (by omega)
          have t3 : decide (q ≤ p) = true := decide_eq_true (by omega)
          clear hed he hpa
          go_upto_region 7 with (fail)
          go_quiet ((go_at_call 40; exact Calls.quiet_of (l1In_rd l.length _ _)))
          go_wp2
          go_ret2
          exact ⟨rfl, by (repeat (first | exact HB.out | refine pw_below_drewN ?_ _ | refine below_drew1 ?_))⟩
        · obtain ⟨ae, rfl, hpa⟩ := two_at (show Rd W (.slice Be 2 ce) [(p : Int), (q : Int)] from HRe0.out)
          obtain ⟨hz2, hz3⟩ := hpa _ HB.out
          obtain ⟨an, rfl, hna, hn16⟩ := near_at HRl.out HGG.out (p := p) (by omega)
          have hz4 := hna _ (Below.refl _ _)
          have HBI := Aside0.mk hbit
          have ha := isBtn_of (n := l.length) (i := (p : Int)) (by omega) (by omega)
          have hb0 := isBtn_of (n := l.length) (i := (q : Int)) (by omega) (by omega)
          have t2 : decide ((q : Int) ≤ (p : Int)) = false := decide_eq_false (by omega)
          have t3 : decide (q ≤ p) = false := decide_eq_false (by omega)
          have t4 : (0 : Int) ≤ (p : Int) := by omega
          have t5 : (p : Int) < (l.length : Int) := by omega
          clear hed he hpa hna hbit
          go_upto_region 7 with (fail)
          go_quiet (first | (go_at_call 40; exact Calls.quiet_of (l1In_rd l.length _ _)) | (go_at_call 41; exact Calls.quiet_of (grIn_rd (nb l p) q hn16 HBI.out _)))
          go_wp2
          go_ret2
          exact ⟨rfl, by (repeat (first | exact HB.out | refine pw_below_drewN ?_ _ | refine below_drew1 ?_))⟩
      · obtain ⟨p, q, rfl, hpq, hq, hbit⟩ := edgeOk_pair hed
        obtain ⟨ae, rfl, hpa⟩ := two_at (show Rd W (.slice Be 2 ce) [(p : Int), (q : Int)] from HRe0.out)
        obtain ⟨hz2, hz3⟩ := hpa _ HB.out
        obtain ⟨an, rfl, hna, hn16⟩ := near_at HRl.out HGG.out (p := p) (by omega)
        have hz4 := hna _ (Below.refl _ _)
        have HBI := Aside0.mk hbit
        have ha := isBtn_of (n := l.length) (i := (p : Int)) (by omega) (by omega)
        have hb0 := isBtn_of (n := l.length) (i := (q : Int)) (by omega) (by omega)
        have t2 : decide ((q : Int) ≤ (p : Int)) = false := decide_eq_false (by omega)
        have t3 : decide (q ≤ p) = false := decide_eq_false (by omega)
        have t4 : (0 : Int) ≤ (p : Int) := by omega
        have t5 : (p : Int) < (l.length : Int) := by omega
        have HPW := Aside0.mk hpa
        have HPQ := Aside0.mk (show p < 16 ∧ q < 16 from ⟨by omega, by omega⟩)
        have hsx := evTo_succ l E k
        rw [HT.out, he, hed, Bool.true_and, Bool.true_and] at hsx
        have HSX := Aside0.mk hsx
        have HBAD := Aside0.mk (fun (h : (E.take k).contains [(p : Int), (q : Int)] = true) => evList_false HX.out hlt (by rw [he, h, Bool.not_true, Bool.and_false]))
        have HEE := Aside0.mk he
        have t6 : (0 : Int) ≤ (k : Int) := by omega
        have t7 : (k : Int) ≤ (c2 : Int) := by omega
        have t8 : k ≤ c2 := by omega
        clear hed he hpa hna hbit hsx
        go_upto_region 7 with (fail)
        go_quiet (first | (go_at_call 40; exact Calls.quiet_of (l1In_rd l.length _ _)) | (go_at_call 41; exact Calls.quiet_of (grIn_rd (nb l p) q hn16 HBI.out _)))
        clear ha hb0 t2 t3 t4 t5 hz2 hz3 hz4 hc1 hX0 hX1 fX0 fX1
        go_wp2
        obtain ⟨wo, rfl⟩ : ∃ wo : World, wo = wr := ⟨_, rfl⟩
        go_loopw [77] (fun v77 wr => ∃ j : Nat, j ≤ k ∧ v77 = .int .i64 (j : Int) ∧ Aside0 (∀ i, i < j → E.getD i [] ≠ [(p : Int), (q : Int)]) ∧ Aside0 (wr.heap[W.heap.size]? = some (.cells #[.slice (some an) l.length c, .bool own] 26 (0, 0))) ∧ Aside0 (Below W.heap.size W wr)) (fun v77 _ => k - (intOf v77).toNat)
        case atStart => exact ⟨0, Nat.zero_le _, rfl, ⟨fun i hi => by omega⟩, ⟨by first | exact blk_drewN X.out _ | exact blk_drew (blk_drewN X.out _) | exact X.out⟩, ⟨by (repeat (first | exact HB.out | refine pw_below_drewN ?_ _ | refine below_drew1 ?_))⟩⟩
        case round =>
          clear HB X HRl
          obtain ⟨j, hj, rfl, HN, X, HB⟩ := hrel
          by_cases hlt2 : j < k
          · obtain ⟨f, hf⟩ : ∃ f, E.getD j [] = f := ⟨_, rfl⟩
            have hfe := evTo_edge HT.out hlt2
            rw [hf] at hfe
            obtain ⟨p2, q2, rfl, _, hq2, _⟩ := edgeOk_pair hfe
            obtain ⟨ad2, Bf, cf, e1, hd0, hrf⟩ := HE.out.row (k := j) (by omega) hf (by simp)
            injection e1 with e1
            subst e1
            have hd1 : wr.cell? (ad.add j) = some (.slice Bf 2 cf) := cell_up HB.out hd0
            obtain ⟨af, rfl, hpf⟩ := two_at (show Rd W (.slice Bf 2 cf) [(p2 : Int), (q2 : Int)] from hrf)
            obtain ⟨hz2, hz3⟩ := HPW.out _ HB.out
            obtain ⟨hy2, hy3⟩ := hpf _ HB.out
            have HFF := Aside0.mk hf
            clear hfe hd0 hrf hpf hf
            by_cases hpp : p = p2
            · by_cases hqq : q = q2
              · subst hpp hqq
                obtain ⟨rfl, rfl⟩ := HBAD.out (is_in (by omega) hlt2 HFF.out)
                have t9 : ((p : Int) == (p : Int)) = true := by simp
                have t10 : ((q : Int) == (q : Int)) = true := by simp
                go_upto_region 12 with (fail)
                go_quiet (fail)
                go_wp2
                go_ret2
                exact ⟨rfl, by (repeat (first | exact HB.out | refine pw_below_drewN ?_ _ | refine below_drew1 ?_))⟩
              · subst hpp
                have t9 : ((p : Int) == (p : Int)) = true := by simp
                have t10 : ((q : Int) == (q2 : Int)) = false := by simp; omega
                have t11 : (q == q2) = false := by simp; omega
                have HNE := Aside0.mk (show ([(p : Int), (q2 : Int)] : List Int) ≠ [(p : Int), (q : Int)] by simp; omega)
                clear hqq
                go_upto_region 12 with (fail)
                go_quiet (fail)
                go_wp2
                go_roundw
                case rel => exact ⟨j + 1, by omega, by go_num, ⟨fun i hi => by
                  by_cases e : i = j
                  · subst e
                    rw [HFF.out]
                    exact HNE.out
                  · exact HN.out i (by omega)⟩, ⟨by first | exact blk_drewN X.out _ | exact X.out⟩, ⟨by (repeat (first | exact HB.out | refine pw_below_drewN ?_ _ | refine below_drew1 ?_))⟩⟩
                case measure => simp [intOf]; omega
            · have t9 : ((p : Int) == (p2 : Int)) = false := by simp; omega
              have t11 : (p == p2) = false := by simp; omega
              have HNE := Aside0.mk (show ([(p2 : Int), (q2 : Int)] : List Int) ≠ [(p : Int), (q : Int)] by simp; omega)
              clear hpp
              go_upto_region 12 with (fail)
              go_quiet (fail)
              go_wp2
              go_roundw
              case rel => exact ⟨j + 1, by omega, by go_num, ⟨fun i hi => by
                by_cases e : i = j
                · subst e
                  rw [HFF.out]
                  exact HNE.out
                · exact HN.out i (by omega)⟩, ⟨by first | exact blk_drewN X.out _ | exact X.out⟩, ⟨by (repeat (first | exact HB.out | refine pw_below_drewN ?_ _ | refine below_drew1 ?_))⟩⟩
              case measure => simp [intOf]; omega
          · obtain rfl : j = k := by omega
            have HNI := Aside0.mk (not_in (Nat.le_of_lt hlt) HN.out)
            go_wp2
            go_roundw
            case rel => exact ⟨j + 1, by omega, by go_num, ⟨by rw [HSX.out, HNI.out]; rfl⟩, X, HB⟩
            case measure => simp [intOf]; omega
    · obtain rfl : k = E.length := by omega
      obtain ⟨hx1, rfl⟩ := HGX.out HT.out
      subst hx1
      have HPP := Aside0.mk (evTo_pairs hg16 HT.out)
      go_wp2_with (go_at_call 42; (with_reducible refine (paEven_rd own (HR.out.below HB.out) (HE.out.below HB.out) HPP.out (by omega)).mono ?_); rintro r w5 ⟨rfl, hb⟩; have nB := Aside0.mk (below_step HB.out hb); clear X HB hb hX0 hX1 fX0 fX1; have HB := nB; clear nB)
      go_ret2
      exact ⟨rfl, HB.out⟩
end Go.Proofs.Ytlohlngmagpepaa.Draw
