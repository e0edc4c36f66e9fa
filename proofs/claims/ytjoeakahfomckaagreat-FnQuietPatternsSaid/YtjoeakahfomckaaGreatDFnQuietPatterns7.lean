/- What is drawn for FnQuietPatterns: within bounds, whatever it is. -/
import Derived.Test.YtjoeakahfomckaaGreatPFnQuietPatternsx
import Derived.Test.YtjoeakahfomckaaGreatQFnQuietPatterns0
import Derived.Test.YtjoeakahfomckaaGreatQFnQuietPatterns1
import Derived.Test.YtjoeakahfomckaaGreatM1
import Derived.Test.YtjoeakahfomckaaGreatM33
import Derived.WalkKit
import Derived.RowKit3
import Derived.Deep.QuietTactic
import Derived.BigQuiet
import Derived.Deep.DeepCutAuto
import Derived.Deep.CutBlock
import Derived.Deep.LoopGhost
import Derived.Outline
import Derived.Deep.DeepFit
import Derived.Test.YtjoeakahfomckaaGreatDFnQuietPatterns0
import Derived.Test.YtjoeakahfomckaaGreatDFnQuietPatterns1
import Derived.Test.YtjoeakahfomckaaGreatDFnQuietPatterns2
import Derived.Test.YtjoeakahfomckaaGreatDFnQuietPatterns3
import Derived.Test.YtjoeakahfomckaaGreatDFnQuietPatterns4
import Derived.Test.YtjoeakahfomckaaGreatDFnQuietPatterns5
import Derived.Test.YtjoeakahfomckaaGreatDFnQuietPatterns6
namespace Go.Proofs.YtjoeakahfomckaaGreat.Draw
open Go.RowKit Go.Proofs.YtjoeakahfomckaaGreat.PFnQuietPatterns Go.Proofs.YtjoeakahfomckaaGreatW.PrintWords Go.Proofs.YtjoeakahfomckaaGreatW.PrintLast Go.Proofs.YtjoeakahfomckaaGreatW.PrintMore Go.Proofs.YtjoeakahfomckaaGreatM Go.Proofs.YtjoeakahfomckaaGreat.Pure
attribute [local go_sem] max2_int min2_int max_two min_two max_three min_three max_four min_four
set_option linter.unusedVariables false
set_option linter.unusedSimpArgs false
variable {w0 w w1 W : World} {g : Nat} {a : Int}
/-! Sets of a basis that are drawn, mostly. -/
def DrawSetsP (W : World) (e : Ending) (W' : World) : Prop := ∃ (u : Value) (m : List Int) (s : Int), e = .returned (.tuple #[u, .int .i64 s]) ∧ Nw W W' u m ∧ Below W.heap.size W W'
set_option maxRecDepth 100000 in
set_option maxHeartbeats 8000000 in
theorem DrawReducedSet_any {W : World} {v : Value} {l0 : List Int} (h : Rb W v l0) : Calls Tryz.prog 25 #[v] W (DrawSetsP W) := by
  obtain ⟨A, c, rfl, hcl, hr, hx⟩ := h
  have hu := Tryz.underlying26
  have huc := Tryz.underlying61
  have HC := Aside0.mk (Cur.new W A c l0 hr hx)
  have hRg : W.heap.size < (W.alloc (Obj.cells #[Value.slice A l0.length c, Value.int IntKind.i64 0, Value.int IntKind.u64 0] 61)).heap.size := by simp
  clear hr hx hcl
  go_enter Tryz.func25, Tryz.ntmps25
  go_upto_region 3 with (go_at_call 51; (with_reducible refine (graph_any _ _ HC.out (by omega) (by omega) (by omega)).mono ?_); rintro e w2 ⟨z, l, own, rfl, hr, hll, hc, hk⟩; obtain ⟨A2, c2, rfl⟩ := Kd.R_slice hr; have nR := Aside0.mk hr; clear hr; have nC := Aside0.mk hc; have hYG := hc.lt; clear hc hk HC; have HC := nC; have R := nR; clear nC nR)
  have nY := Aside0.mk (blk_new w2 (.cells #[.slice A2 l.length c2, .bool own] 26)); have nC := Aside0.mk (HC.out.alloc (.cells #[.slice A2 l.length c2, .bool own] 26)); have nR := Aside0.mk (Kd.R_alloc R.out (.cells #[.slice A2 l.length c2, .bool own] 26)); clear HC R; generalize World.alloc w2 (.cells #[.slice A2 l.length c2, .bool own] 26) = w3 at *; have HC := nC; clear nC; have hYg : w2.heap.size ≠ _ := Nat.ne_of_gt hYG; have Y := nY; clear nY; have R := nR; clear nR
  (try clear hY0 hY1 fY0 fY1); have hY0 := (blk_cell Y.out 0).trans rfl; have hY1 := (blk_cell Y.out 1).trans rfl; have fY0 := blk_frozen Y.out 0; have fY1 := blk_frozen Y.out 1
  have hRo := Aside0.mk (Own.of R.out)
  clear R
  have R := hRo
  clear hRo
  go_upto_region 4 with (go_at_call 59; (with_reducible refine (set_any own _ HC.out (by omega) (by omega)).mono ?_); rintro e w4 ⟨s, rfl, hc, hk⟩; have nHC := Aside0.mk hc; have nY := Aside0.mk (hk.blk (Y.out) hYg (by simp)); have nR := Aside0.mk (Own.keep (R.out) hk hRg); (try clear hY0 hY1 fY0 fY1); (try clear hb); (try clear ho); (try clear hc hk); clear HC Y R; have HC := nHC; clear nHC; have Y := nY; clear nY; have R := nR; clear nR; (try clear hY0 hY1 fY0 fY1); have hY0 := (blk_cell Y.out 0).trans rfl; have hY1 := (blk_cell Y.out 1).trans rfl; have fY0 := blk_frozen Y.out 0; have fY1 := blk_frozen Y.out 1)
  obtain ⟨gb, hq_⟩ : ∃ r, (good l) = r := ⟨_, rfl⟩; have GB := Aside0.mk hq_; clear hq_
  cases gb
  · go_wp2_with (first
      | (go_at_call 41; (with_reducible refine (grGood_any own (R.out.rd (by omega)) GB.out).mono ?_); rintro e w5 ⟨rfl, hb⟩; have hc := HC.out.below hb; have hk := HC.out.keepB hb; have nHC := Aside0.mk hc; have nY := Aside0.mk (hk.blk (Y.out) hYg (by simp)); have nR := Aside0.mk (Own.keep (R.out) hk hRg); (try clear hY0 hY1 fY0 fY1); (try clear hb); (try clear ho); (try clear hc hk); clear HC Y R; have HC := nHC; clear nHC; have Y := nY; clear nY; have R := nR; clear nR; (try clear hY0 hY1 fY0 fY1); have hY0 := (blk_cell Y.out 0).trans rfl; have hY1 := (blk_cell Y.out 1).trans rfl; have fY0 := blk_frozen Y.out 0; have fY1 := blk_frozen Y.out 1)
      | ((with_reducible refine gate_dst (N := 19) rfl ?_); refine Kd.R_lit (Kd.int .i64) W.heap.size 3 ?hg (N := 19) ?hd (xs := ([3] : List Int)) (inner := [.int .i64 3]) (ok := fun _ => True) (okp := fun _ => True) ?hr ?hp (fun _ hk => hk) trivial HC.out.base HC.out.base.size (by simp) ?_; (case hd => rfl); (case hg => rfl); (case hr => first | (go_simp; done) | (go_simp; rfl)); (case hp => exact (Reps.one (show Kd.M (Kd.int .i64) _ _ _ (3 : Int) [.int .i64 3] from rfl) (Reps.none _ _))); intro v6 w6 ho hb _ _; obtain ⟨A6, c6, rfl⟩ := Kd.R_slice ho; have HV := Aside0.mk ho; have HB := Aside0.mk hb; clear ho hb))
    go_ret2
    exact ⟨_, [3], _, rfl, ⟨HV.out, by simp⟩, HB.out⟩
  · have hG := (good_iff l).1 GB.out
    have HGG := Aside0.mk hG
    have hql := (image_small hG own).2.1
    clear hG
    go_upto_region 8 with (first
      | (go_at_call 41; (with_reducible refine (grGood_any own (R.out.rd (by omega)) GB.out).mono ?_); rintro e w5 ⟨rfl, hb⟩; have hc := HC.out.below hb; have hk := HC.out.keepB hb; have nHC := Aside0.mk hc; have nY := Aside0.mk (hk.blk (Y.out) hYg (by simp)); have nR := Aside0.mk (Own.keep (R.out) hk hRg); (try clear hY0 hY1 fY0 fY1); (try clear hb); (try clear ho); (try clear hc hk); clear HC Y R; have HC := nHC; clear nHC; have Y := nY; clear nY; have R := nR; clear nR; (try clear hY0 hY1 fY0 fY1); have hY0 := (blk_cell Y.out 0).trans rfl; have hY1 := (blk_cell Y.out 1).trans rfl; have fY0 := blk_frozen Y.out 0; have fY1 := blk_frozen Y.out 1)
      | (go_at_call 43; (with_reducible refine (soImage_any own (R.out.rd (by omega)) HGG.out).mono ?_); rintro e w6 ⟨u6, rfl, hn, hb⟩; obtain ⟨A6, c6, h6⟩ := hn.slice; rw [ints_length] at h6; subst h6; have hVg : W.heap.size < w5.heap.size := HC.out.lt; have hVW : W.heap.size ≤ w5.heap.size := (by omega); have HV := Aside0.mk hn.1; have hS : w5.heap.size ≤ w6.heap.size := hb.size; clear hn; have hc := HC.out.below hb; have hk := HC.out.keepB hb; have nHC := Aside0.mk hc; (try clear hb); (try clear ho); (try clear hc hk); clear HC; have HC := nHC; clear nHC; clear Y R hY0 hY1 fY0 fY1)
      | (go_at_call 60; (with_reducible refine (pick_any _ _ HC.out (by omega)).mono ?_); rintro e w7 ⟨t, rfl, ht0, ht1, ht, hc, hk⟩; have nHC := Aside0.mk hc; have nHV := Aside0.mk (row_keep (HV.out) hk hVg); have nhS := Nat.le_trans hS hk.1; (try clear hb); (try clear ho); (try clear hc hk); clear HC HV hS; have HC := nHC; clear nHC; have HV := nHV; clear nHV; have hS := nhS; clear nhS))
    generalize (svG l own).image = q at *
    by_cases e0 : t = 0
    · subst e0
      go_wp2_with (first
        | (go_at_call 61; refine (among_lit _ (HC.out.alloc _) (by omega) (C_lit _ [_, _, _, _, _] (by simp)) (by have h := HC.out.lt; omega) rfl (by simp)).mono ?_; rintro e w8 ⟨x, rfl, hx, hc, hk⟩; have nHC := Aside0.mk hc; have nHV := Aside0.mk (row_keep (Kd.R_alloc HV.out _) hk hVg); have nhS := Nat.le_trans hS (Nat.le_trans (by simp) hk.1); (try clear hb); (try clear ho); (try clear hc hk); clear HC HV hS; have HC := nHC; clear nHC; have HV := nHV; clear nHV; have hS := nhS; clear nhS)
        | ((with_reducible refine gate_builtin (b := .append) (xs := #[.tmp 27, .tmp 31]) rfl ?_); at_builtin; refine Kd.R_append (Kd.int .i64) w5.heap.size rfl (.tmp 27) (.tmp 31) 24 3 (.int .i64 0) 8 rfl Tryz.underlying24 info3 rfl (by decide) (by omega) (.slice A6 q.length c6) (ints q) (x) [.int .i64 (x)] (fun _ => True) (fun _ => False) rfl (by first | (go_simp; done) | (go_simp; rfl)) ?aP (fun _ hk => hk.elim) (fun _ _ => trivial) HV.out (Below.refl _ _) ?aS ?aL ?_; (case aP => exact rfl); (case aS => exact hS); (case aL => rw [ints_length]; omega); intro v9 w9 ho hb _ _; have nHC := Aside0.mk (HC.out.low hb (by omega) (by omega)); have nHV := Aside0.mk ho; have nhS := Nat.le_trans hS hb.size; (try clear hb); (try clear ho); (try clear hc hk); clear HC HV hS; have HC := nHC; clear nHC; have HV := nHV; clear nHV; have hS := nhS; clear nhS))
      obtain ⟨A9, c9, rfl⟩ := Kd.R_slice HV.out
      go_ret2
      exact ⟨_, _, _, rfl, ⟨Kd.R_lower HV.out hVW, by rw [List.length_append, ints_length, List.length_singleton]; omega⟩, HC.out.base⟩
    · have e0b : (t == 0) = false := by simpa using e0
      by_cases e1 : t = 1
      · subst e1
        by_cases e2 : 1 < q.length
        · have hgt : ((1 : Int) < (q.length : Int)) = True := eq_true (by omega)
          obtain ⟨r, cap, hA, hb, hlt, hz⟩ := Lies.of HV.out (by rw [ints_length]; omega)
          rw [ints_length] at hA hz
          injection hA with hA1 hA2 hA3
          subst hA1
          subst hA3
          obtain ⟨hc0, hf0⟩ := hz.cell 0 (by omega) (by omega)
          obtain ⟨hc1, hf1⟩ := hz.cell ((q.length : Int) - 1) (by omega) (by omega)
          rw [show ((q.length : Int) - 1).toNat = q.length - 1 by omega] at hc1 hf1
          rw [show (0 : Int).toNat = 0 from rfl] at hc0 hf0
          have hq0 : 0 < q.length := by omega
          have hq1 : q.length - 1 < q.length := by omega
          have hw : wrap64 ((q.length : Int) - 1) = (q.length : Int) - 1 := wrap_id (by omega) (by omega)
          have HZ := Aside0.mk hz
          go_upto_region 12 with (fail)
          go_region
          obtain ⟨y, hy⟩ : ∃ y, Go.bits .or .i64 (rd (ints q) 0) (rd (ints q) ((q.length : Int) - 1)) = y := ⟨_, rfl⟩
          rw [hy]
          have nZ : Lies (w7.setCell ⟨r, 0, none⟩ (.int .i64 y)) w5.heap.size r q.length _ ((ints q).set 0 y) := HZ.out.set 0 y
          have nC := HC.out.far (p := ⟨r, 0, none⟩) (by simp only; omega) (by simp only; omega) (.int .i64 y)
          go_wp2
          go_ret2
          exact ⟨_, _, _, rfl, ⟨Kd.R_lower (Kd.R_mono (Kd.R_drew nZ.2) (fun _ _ => trivial)) hVW, by rw [List.length_set, ints_length]; omega⟩, nC.drew.base⟩
        · have hgt : ((1 : Int) < (q.length : Int)) = False := eq_false (by omega)
          go_wp2
          go_ret2
          exact ⟨_, _, _, rfl, ⟨Kd.R_lower HV.out hVW, by rw [ints_length]; omega⟩, HC.out.base⟩
      · have e1b : (t == 1) = false := by simpa using e1
        go_wp2
        go_ret2
        exact ⟨_, _, _, rfl, ⟨Kd.R_lower HV.out hVW, by rw [ints_length]; omega⟩, HC.out.base⟩
end Go.Proofs.YtjoeakahfomckaaGreat.Draw
