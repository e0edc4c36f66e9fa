/- What is drawn for FnQuietPatterns: within bounds, whatever it is. -/
import Derived.Test.YtjoeakahfomckaaGreatPFnQuietPatternsx
import Derived.Test.YtjoeakahfomckaaGreatQFnQuietPatterns0
import Derived.Test.YtjoeakahfomckaaGreatQFnQuietPatterns1
import Derived.Test.YtjoeakahfomckaaGreatM1
import Derived.Test.YtjoeakahfomckaaGreatM33
import Derived.WalkKit
import Derived.RowKit3
import Derived.Deep.QuietTactic
import Derived.BigQuiet
import Derived.Deep.DeepCutAuto
import Derived.Deep.CutBlock
import Derived.Deep.LoopGhost
import Derived.Outline
import Derived.Deep.DeepFit
import Derived.Test.YtjoeakahfomckaaGreatDFnQuietPatterns0
import Derived.Test.YtjoeakahfomckaaGreatDFnQuietPatterns1
import Derived.Test.YtjoeakahfomckaaGreatDFnQuietPatterns2
import Derived.Test.YtjoeakahfomckaaGreatDFnQuietPatterns3
import Derived.Test.YtjoeakahfomckaaGreatDFnQuietPatterns4
import Derived.Test.YtjoeakahfomckaaGreatDFnQuietPatterns5
namespace Go.Proofs.YtjoeakahfomckaaGreat.Draw
open Go.RowKit Go.Proofs.YtjoeakahfomckaaGreat.PFnQuietPatterns Go.Proofs.YtjoeakahfomckaaGreatW.PrintWords Go.Proofs.YtjoeakahfomckaaGreatW.PrintLast Go.Proofs.YtjoeakahfomckaaGreatW.PrintMore Go.Proofs.YtjoeakahfomckaaGreatM Go.Proofs.YtjoeakahfomckaaGreat.Pure
attribute [local go_sem] max2_int min2_int max_two min_two max_three min_three max_four min_four
set_option linter.unusedVariables false
set_option linter.unusedSimpArgs false
variable {w0 w w1 W : World} {g : Nat} {a : Int}
/-! Quiet sets that are drawn, and sets of a basis. -/
theorem grGood_any {W : World} {v : Value} {l : List Int} (own : Bool) {b : Bool} (h : Rd W v l) (hb : good l = b) : Calls Tryz.prog 41 #[.agg #[v, .bool own]] W fun e W' => e = .returned (.bool b) ∧ Below W.heap.size W W' := by
  obtain ⟨A, c, rfl, hc, hC, hl⟩ := h
  obtain ⟨K, hK⟩ := ev_get (spec_grGood.ev l own (by omega))
  exact spec_grGood.calls K A c l own b W hC hc ((hK K (Nat.le_refl _)).trans (by rw [hb]))
theorem soQuiet_any {W : World} {v : Value} {l : List Int} (own : Bool) (h : Rd W v l) (hG : GoodG l) : Calls Tryz.prog 42 #[.agg #[v, .bool own]] W fun e W' => ∃ u, e = .returned u ∧ Nw W W' u (ints (svG l own).quiet) ∧ Below W.heap.size W W' := by
  obtain ⟨A, c, rfl, hc, hC, hl⟩ := h
  obtain ⟨K, hK⟩ := ev_get (spec_soQuiet.ev l own hG)
  rw [soQuiet_sv hG own] at hK
  have := (quiet_small hG own).2.1
  exact (spec_soQuiet.calls K A c l own _ W hC hc (hK K (Nat.le_refl _))).mono fun _ _ ⟨u, he, h1, h2⟩ => ⟨u, he, ⟨h1, by rw [ints_length]; omega⟩, h2⟩
theorem soImage_any {W : World} {v : Value} {l : List Int} (own : Bool) (h : Rd W v l) (hG : GoodG l) : Calls Tryz.prog 43 #[.agg #[v, .bool own]] W fun e W' => ∃ u, e = .returned u ∧ Nw W W' u (ints (svG l own).image) ∧ Below W.heap.size W W' := by
  obtain ⟨A, c, rfl, hc, hC, hl⟩ := h
  obtain ⟨K, hK⟩ := ev_get (spec_soImage.ev l own hG)
  have := (image_small hG own).2.1
  exact (spec_soImage.calls K A c l own _ W hC hc (hK K (Nat.le_refl _))).mono fun _ _ ⟨u, he, h1, h2⟩ => ⟨u, he, ⟨h1, by rw [ints_length]; omega⟩, h2⟩
set_option maxRecDepth 100000 in
set_option maxHeartbeats 8000000 in
theorem quietSet_any {A : Option Addr} {c lo hi : Nat} {l : List Int} (own : Bool) (w : World) (hc : Cur w0 g a w) (ha : a ≤ 144115188075855872) (hr : Own w lo hi (.slice A l.length c) l) (hRg : g < lo) (hl : l.length ≤ 17) : Calls Tryz.prog 56 #[.pointer (some ⟨g, 0, none⟩), .agg #[.slice A l.length c, .bool own]] w (SetP w0 w g (a + 100)) := by
  have hu := Tryz.underlying26
  have hgl := hc.lt
  have HC := Aside0.mk (hc.alloc (.cells #[.slice A l.length c, .bool own] 26))
  have HK := Aside0.mk (keep_alloc (KeepBut.refl w g none) (.cells #[.slice A l.length c, .bool own] 26))
  have X := Aside0.mk (blk_new w (.cells #[.slice A l.length c, .bool own] 26))
  have R := Aside0.mk (hr.alloc (.cells #[.slice A l.length c, .bool own] 26))
  have hXg : w.heap.size ≠ g := by omega
  clear hc hr
  go_enter Tryz.func56, Tryz.ntmps56
  go_upto_region 1 with (fail)
  generalize w.alloc (.cells #[.slice A l.length c, .bool own] 26) = w1 at *
  (try clear hX0 hX1 fX0 fX1); have hX0 := (blk_cell X.out 0).trans rfl; have hX1 := (blk_cell X.out 1).trans rfl; have fX0 := blk_frozen X.out 0; have fX1 := blk_frozen X.out 1
  obtain ⟨gb, hq_⟩ : ∃ r, (good l) = r := ⟨_, rfl⟩; have GB := Aside0.mk hq_; clear hq_
  cases gb
  · go_wp2_with (first
      | (go_at_call 41; (with_reducible refine (grGood_any own (R.out.rd (by omega)) GB.out).mono ?_); rintro e w3 ⟨rfl, hb⟩; have hc := HC.out.below hb; have hk := HC.out.keepB hb; have nHC := Aside0.mk hc; have nHK := Aside0.mk ((HK.out).trans hk (.inl rfl)); have nX := Aside0.mk (hk.blk (X.out) hXg (by simp)); have nR := Aside0.mk (Own.keep (R.out) hk hRg); (try clear hX0 hX1 fX0 fX1); (try clear hb); (try clear ho); (try clear hc hk); clear HC HK X R; have HC := nHC; clear nHC; have HK := nHK; clear nHK; have X := nX; clear nX; have R := nR; clear nR; (try clear hX0 hX1 fX0 fX1); have hX0 := (blk_cell X.out 0).trans rfl; have hX1 := (blk_cell X.out 1).trans rfl; have fX0 := blk_frozen X.out 0; have fX1 := blk_frozen X.out 1)
      | (go_at_call 59; (with_reducible refine (set_any own _ HC.out (by omega) (by omega)).mono ?_); rintro e w2 ⟨s, rfl, hc, hk⟩; have nHC := Aside0.mk hc; have nHK := Aside0.mk ((HK.out).trans hk (.inl rfl)); have nX := Aside0.mk (hk.blk (X.out) hXg (by simp)); have nR := Aside0.mk (Own.keep (R.out) hk hRg); (try clear hX0 hX1 fX0 fX1); (try clear hb); (try clear ho); (try clear hc hk); clear HC HK X R; have HC := nHC; clear nHC; have HK := nHK; clear nHK; have X := nX; clear nX; have R := nR; clear nR; (try clear hX0 hX1 fX0 fX1); have hX0 := (blk_cell X.out 0).trans rfl; have hX1 := (blk_cell X.out 1).trans rfl; have fX0 := blk_frozen X.out 0; have fX1 := blk_frozen X.out 1))
    go_ret
    exact ⟨_, rfl, HC.out.le (by omega), HK.out⟩
  · have hG := (good_iff l).1 GB.out
    go_upto_if 14 with (first
      | (go_at_call 41; (with_reducible refine (grGood_any own (R.out.rd (by omega)) GB.out).mono ?_); rintro e w3 ⟨rfl, hb⟩; have hc := HC.out.below hb; have hk := HC.out.keepB hb; have nHC := Aside0.mk hc; have nHK := Aside0.mk ((HK.out).trans hk (.inl rfl)); have nX := Aside0.mk (hk.blk (X.out) hXg (by simp)); have nR := Aside0.mk (Own.keep (R.out) hk hRg); (try clear hX0 hX1 fX0 fX1); (try clear hb); (try clear ho); (try clear hc hk); clear HC HK X R; have HC := nHC; clear nHC; have HK := nHK; clear nHK; have X := nX; clear nX; have R := nR; clear nR; (try clear hX0 hX1 fX0 fX1); have hX0 := (blk_cell X.out 0).trans rfl; have hX1 := (blk_cell X.out 1).trans rfl; have fX0 := blk_frozen X.out 0; have fX1 := blk_frozen X.out 1)
      | (go_at_call 71; (with_reducible refine (one_any _ _ HC.out (by omega)).mono ?_); rintro e w4 ⟨b, rfl, hc, hk⟩; have nHC := Aside0.mk hc; have nHK := Aside0.mk ((HK.out).trans hk (.inl rfl)); have nX := Aside0.mk (hk.blk (X.out) hXg (by simp)); have nR := Aside0.mk (Own.keep (R.out) hk hRg); (try clear hX0 hX1 fX0 fX1); (try clear hb); (try clear ho); (try clear hc hk); clear HC HK X R; have HC := nHC; clear nHC; have HK := nHK; clear nHK; have X := nX; clear nX; have R := nR; clear nR; (try clear hX0 hX1 fX0 fX1); have hX0 := (blk_cell X.out 0).trans rfl; have hX1 := (blk_cell X.out 1).trans rfl; have fX0 := blk_frozen X.out 0; have fX1 := blk_frozen X.out 1))
    cases b
    · have HGG := Aside0.mk hG
      have hql := (quiet_small hG own).2.1
      clear hG
      go_wp2_with (go_at_call 42; (with_reducible refine (soQuiet_any own (R.out.rd (by omega)) HGG.out).mono ?_); rintro e w5 ⟨u5, rfl, hn, hb⟩; obtain ⟨A5, c5, h5⟩ := hn.slice; rw [ints_length] at h5; subst h5; have hVg : g < w4.heap.size := HC.out.lt; have HV := Aside0.mk hn.1; clear hn; have hc := HC.out.below hb; have hk := HC.out.keepB hb; have nHC := Aside0.mk hc; have nHK := Aside0.mk ((HK.out).trans hk (.inl rfl)); (try clear hb); (try clear ho); (try clear hc hk); clear HC HK; have HC := nHC; clear nHC; have HK := nHK; clear nHK; clear X R hX0 hX1 fX0 fX1)
      generalize (svG l own).quiet = q at *
      go_loopw [5, 21] (fun v5 v21 wr => ∃ (j : Nat) (s : Int), j ≤ q.length ∧ v21 = .int .i64 (j : Int) ∧ v5 = .int .i64 s ∧ Aside0 (Cur w0 g (a + 4 + 4 * j) wr) ∧ Aside0 (KeepBut w wr g none) ∧ Aside0 (Kd.R (Kd.int .i64) 3 wr w4.heap.size (fun _ => True) (.slice A5 q.length c5) (ints q))) (fun _ v21 _ => q.length - (intOf v21).toNat)
      case atStart => exact ⟨0, 0, Nat.zero_le _, rfl, rfl, ⟨HC.out.le (by omega)⟩, HK, HV⟩
      case round =>
        clear HC HK HV
        obtain ⟨j, s, hj, rfl, rfl, HC, HK, HV⟩ := hrel
        by_cases hlt : j < q.length
        · have RC := Rd.of HV.out (by rw [ints_length]; omega)
          obtain ⟨ad, e1, hc_⟩ := RC.cell (j : Int) (by omega) (by first | omega | (rw [ints_length]; omega))
          subst e1
          clear hc_
          have hcell := RC.cellN j (by first | omega | (rw [ints_length]; omega))
          rw [ints_get q j hlt] at hcell
          clear RC
          go_upto_if 26 with (go_at_call 71; (with_reducible refine (one_any _ _ HC.out (by omega)).mono ?_); rintro e w6 ⟨b, rfl, hc, hk⟩; clear hcell; have nHC := Aside0.mk hc; have nHK := Aside0.mk ((HK.out).trans hk (.inl rfl)); have nHV := Aside0.mk (row_keep (HV.out) hk hVg); (try clear hb); (try clear ho); (try clear hc hk); clear HC HK HV; have HC := nHC; clear nHC; have HK := nHK; clear nHK; have HV := nHV; clear nHV)
          cases b
          all_goals
            go_wp2
            go_roundw
            case rel => exact ⟨j + 1, _, by omega, by go_num, rfl, ⟨HC.out.le (by omega)⟩, HK, HV⟩
            case measure => simp [intOf]; omega
        · go_wp2
          go_ret
          exact ⟨_, rfl, HC.out.le (by omega), HK.out⟩
    · go_wp2_with (go_at_call 59; (with_reducible refine (set_any own _ HC.out (by omega) (by omega)).mono ?_); rintro e w2 ⟨s, rfl, hc, hk⟩; have nHC := Aside0.mk hc; have nHK := Aside0.mk ((HK.out).trans hk (.inl rfl)); have nX := Aside0.mk (hk.blk (X.out) hXg (by simp)); have nR := Aside0.mk (Own.keep (R.out) hk hRg); (try clear hX0 hX1 fX0 fX1); (try clear hb); (try clear ho); (try clear hc hk); clear HC HK X R; have HC := nHC; clear nHC; have HK := nHK; clear nHK; have X := nX; clear nX; have R := nR; clear nR; (try clear hX0 hX1 fX0 fX1); have hX0 := (blk_cell X.out 0).trans rfl; have hX1 := (blk_cell X.out 1).trans rfl; have fX0 := blk_frozen X.out 0; have fX1 := blk_frozen X.out 1)
      go_ret
      exact ⟨_, rfl, HC.out.le (by omega), HK.out⟩
set_option maxRecDepth 100000 in
set_option maxHeartbeats 8000000 in
theorem DrawIsQuiet_any {W : World} {v : Value} {l0 : List Int} (h : Rb W v l0) : Calls Tryz.prog 23 #[v] W (DrawGSP W) := by
  obtain ⟨A, c, rfl, hcl, hr, hx⟩ := h
  have hu := Tryz.underlying26
  have huc := Tryz.underlying61
  have HW := Aside0.mk (below_alloc (Below.refl W.heap.size W) (.cells #[.slice none 0 0, .bool false] 26))
  have X := Aside0.mk (blk_new W (.cells #[.slice none 0 0, .bool false] 26))
  have HR0 := Aside0.mk (Kd.C_alloc hr (.cells #[.slice none 0 0, .bool false] 26))
  have HXX := Aside0.mk hx
  clear hr hx hcl
  go_enter Tryz.func23, Tryz.ntmps23
  go_upto_region 1 with (fail)
  generalize W.alloc (.cells #[.slice none 0 0, .bool false] 26) = w1 at *
  have HC := Aside0.mk (Cur.new w1 A c l0 HR0.out HXX.out)
  have hXg := Nat.ne_of_lt (blk_lt X.out)
  have hXl := blk_lt X.out
  have hRg : w1.heap.size < (w1.alloc (Obj.cells #[Value.slice A l0.length c, Value.int IntKind.i64 0, Value.int IntKind.u64 0] 61)).heap.size := by simp
  go_upto_region 3 with (go_at_call 51; (with_reducible refine (graph_any _ _ HC.out (by omega) (by omega) (by omega)).mono ?_); rintro e w2 ⟨z, l, own, rfl, hr, hll, hc, hk⟩; obtain ⟨A2, c2, rfl⟩ := Kd.R_slice hr; have nR := Aside0.mk hr; clear hr; have hXx := blk_alloc X.out (.cells #[.slice A l0.length c, .int .i64 0, .int .u64 0] 61); have nX := Aside0.mk (hk.blk hXx hXg (by simp)); have nC := Aside0.mk hc; have hYG := hc.lt; clear hc hk hXx HC X; have HC := nC; have X := nX; have R := nR; clear nC nX nR)
  have hY2 := blk_lt X.out
  have nY := Aside0.mk (blk_new w2 (.cells #[.slice A2 l.length c2, .bool own] 26)); have nC := Aside0.mk (HC.out.alloc (.cells #[.slice A2 l.length c2, .bool own] 26)); have nX := Aside0.mk (blk_alloc X.out (.cells #[.slice A2 l.length c2, .bool own] 26)); have nR := Aside0.mk (Kd.R_alloc R.out (.cells #[.slice A2 l.length c2, .bool own] 26)); clear HC X R; generalize World.alloc w2 (.cells #[.slice A2 l.length c2, .bool own] 26) = w3 at *; have HC := nC; clear nC; have hYg : w2.heap.size ≠ _ := Nat.ne_of_gt hYG; have Y := nY; clear nY; have X := nX; clear nX; have R := nR; clear nR
  (try clear hY0 hY1 fY0 fY1); have hY0 := (blk_cell Y.out 0).trans rfl; have hY1 := (blk_cell Y.out 1).trans rfl; have fY0 := blk_frozen Y.out 0; have fY1 := blk_frozen Y.out 1
  have hRo := Aside0.mk (Own.of R.out)
  clear R
  have R := hRo
  clear hRo
  go_region_held3 (fun w' => w'.cell? ⟨w2.heap.size, 0, none⟩ = some (.slice A2 l.length c2) ∧ w'.cell? ⟨w2.heap.size, 1, none⟩ = some (.bool own)) (first | exact ⟨hY0, hY1⟩ | exact ⟨cell_far2 hY0 (by simp only; omega), cell_far2 hY1 (by simp only; omega)⟩ | exact ⟨cell_far2 (cell_far2 hY0 (by simp only; omega)) (by simp only; omega), cell_far2 (cell_far2 hY1 (by simp only; omega)) (by simp only; omega)⟩ | go_keep) (first
    | (go_at_call 56; (with_reducible refine (quietSet_any own _ HC.out.drew (by omega) R.out.drew hRg (by omega)).mono ?_); rintro e w4 ⟨a4, rfl, hc, hk⟩; have nHC := Aside0.mk hc; have nX := Aside0.mk (hk.blk (blk_drew X.out) hXg (by simp)); have nY := Aside0.mk (hk.blk (blk_drew Y.out) hYg (by simp)); have nR := Aside0.mk (Own.keep (Own.drew R.out) hk hRg); (try clear hY0 hY1 fY0 fY1); (try clear hX0 hX1 fX0 fX1); (try clear hb); (try clear ho); (try clear hc hk); clear HC X Y R; have HC := nHC; clear nHC; have X := nX; clear nX; have Y := nY; clear nY; have R := nR; clear nR; (try clear hY0 hY1 fY0 fY1); have hY0 := (blk_cell Y.out 0).trans rfl; have hY1 := (blk_cell Y.out 1).trans rfl; have fY0 := blk_frozen Y.out 0; have fY1 := blk_frozen Y.out 1; (try clear hX0 hX1 fX0 fX1); have hX0 := (blk_cell X.out 0).trans rfl; have hX1 := (blk_cell X.out 1).trans rfl; have fX0 := blk_frozen X.out 0; have fX1 := blk_frozen X.out 1)
    | (go_at_call 56; (with_reducible refine (quietSet_any own _ HC.out (by omega) R.out hRg (by omega)).mono ?_); rintro e w4 ⟨a4, rfl, hc, hk⟩; have nHC := Aside0.mk hc; have nX := Aside0.mk (hk.blk (X.out) hXg (by simp)); have nY := Aside0.mk (hk.blk (Y.out) hYg (by simp)); have nR := Aside0.mk (Own.keep (R.out) hk hRg); (try clear hY0 hY1 fY0 fY1); (try clear hX0 hX1 fX0 fX1); (try clear hb); (try clear ho); (try clear hc hk); clear HC X Y R; have HC := nHC; clear nHC; have X := nX; clear nX; have Y := nY; clear nY; have R := nR; clear nR; (try clear hY0 hY1 fY0 fY1); have hY0 := (blk_cell Y.out 0).trans rfl; have hY1 := (blk_cell Y.out 1).trans rfl; have fY0 := blk_frozen Y.out 0; have fY1 := blk_frozen Y.out 1; (try clear hX0 hX1 fX0 fX1); have hX0 := (blk_cell X.out 0).trans rfl; have hX1 := (blk_cell X.out 1).trans rfl; have fX0 := blk_frozen X.out 0; have fX1 := blk_frozen X.out 1))
  (go_wp2; refine bodyPost_ret (results_ct rfl _ _ W.heap.size 26 _ (0, 0) _ rfl (put2_blk X.out _ _) Tryz.underlying26 rfl (by kernel_rfl)) rfl ?_; exact ⟨_, l, own, _, rfl, ⟨Kd.R_lower (row_far (row_far R.out (p := ⟨W.heap.size, 0, none⟩) (by simp only; omega) _) (p := ⟨W.heap.size, 1, none⟩) (by simp only; omega) _) (by omega), by omega⟩, below_set (below_set (below_step HW.out HC.out.base) (Nat.le_refl _)) (Nat.le_refl _)⟩)
set_option maxRecDepth 100000 in
set_option maxHeartbeats 8000000 in
theorem DrawQuietPatterns_any {W : World} {v : Value} {l0 : List Int} (h : Rb W v l0) : Calls Tryz.prog 19 #[v] W (DrawGP W) := by
  obtain ⟨A, c, rfl, hcl, hr, hx⟩ := h
  have hu := Tryz.underlying26
  have huc := Tryz.underlying61
  have HW := Aside0.mk (below_alloc (Below.refl W.heap.size W) (.cells #[.slice none 0 0, .bool false] 26))
  have X := Aside0.mk (blk_new W (.cells #[.slice none 0 0, .bool false] 26))
  have HR0 := Aside0.mk (Kd.C_alloc hr (.cells #[.slice none 0 0, .bool false] 26))
  have HXX := Aside0.mk hx
  clear hr hx hcl
  go_enter Tryz.func19, Tryz.ntmps19
  go_upto_region 1 with (fail)
  generalize W.alloc (.cells #[.slice none 0 0, .bool false] 26) = w1 at *
  have HC := Aside0.mk (Cur.new w1 A c l0 HR0.out HXX.out)
  have hXg := Nat.ne_of_lt (blk_lt X.out)
  have hXl := blk_lt X.out
  have hRg : w1.heap.size < (w1.alloc (Obj.cells #[Value.slice A l0.length c, Value.int IntKind.i64 0, Value.int IntKind.u64 0] 61)).heap.size := by simp
  go_upto_region 2 with (fail)
  have nX := Aside0.mk (blk_alloc X.out (.cells #[.slice A l0.length c, .int .i64 0, .int .u64 0] 61))
  clear X
  have X := nX
  clear nX
  generalize World.alloc w1 (.cells #[.slice A l0.length c, .int .i64 0, .int .u64 0] 61) = w1s at *
  go_wp2_with (go_at_call 51; (with_reducible refine (graph_any _ _ HC.out (by omega) (by omega) (by omega)).mono ?_); rintro e w3 ⟨z, l, own, rfl, hr, hll, hc, hk⟩; obtain ⟨A2, c2, rfl⟩ := Kd.R_slice hr; have nX := Aside0.mk (hk.blk X.out hXg (by simp)); have R := Aside0.mk hr; have hW3 := blk_lt X.out; clear HC X hk hr; have HC := Aside0.mk hc; have X := nX; clear hc nX; (try clear hX0 hX1 fX0 fX1); have hX0 := (blk_cell X.out 0).trans rfl; have hX1 := (blk_cell X.out 1).trans rfl; have fX0 := blk_frozen X.out 0; have fX1 := blk_frozen X.out 1)
  go_wp2
  refine bodyPost_ret (results_cell_row rfl _ _ W.heap.size 26 _ (0, 0) _ rfl (put2_blk X.out _ _) Tryz.underlying26 rfl (by kernel_rfl)) rfl ?_
  exact ⟨_, l, own, rfl, ⟨Kd.R_lower (row_far (row_far R.out (p := ⟨W.heap.size, 0, none⟩) (by simp only; omega) _) (p := ⟨W.heap.size, 1, none⟩) (by simp only; omega) _) (by omega), by omega⟩, below_set (below_set (below_step HW.out HC.out.base) (Nat.le_refl _)) (Nat.le_refl _)⟩
set_option maxRecDepth 100000 in
set_option maxHeartbeats 8000000 in
theorem DrawQuietBasis_any {W : World} {v : Value} {l0 : List Int} (h : Rb W v l0) : Calls Tryz.prog 6 #[v] W (DrawGP W) := by
  have hu := Tryz.underlying26
  have HW := Aside0.mk (below_alloc (Below.refl W.heap.size W) (.cells #[.slice none 0 0, .bool false] 26))
  have X := Aside0.mk (blk_new W (.cells #[.slice none 0 0, .bool false] 26))
  have H := Aside0.mk (h.below HW.out)
  obtain ⟨A, c, rfl, _⟩ := h
  go_enter Tryz.func6, Tryz.ntmps6
  go_upto_region 1 with (fail)
  generalize W.alloc (.cells #[.slice none 0 0, .bool false] 26) = w1 at *
  have hXl := blk_lt X.out
  go_wp2_with (go_at_call 38; (with_reducible refine (DrawIsGraph_any H.out).mono ?_); rintro e w2 ⟨u, l, own, rfl, hr, hb⟩; obtain ⟨A2, c2, rfl⟩ := hr.slice; have R := Aside0.mk hr; have nX := Aside0.mk (blk_below X.out hb); have nW := Aside0.mk (below_step HW.out hb); clear hr hb X HW; have X := nX; have HW := nW; clear nX nW; (try clear hX0 hX1 fX0 fX1); have hX0 := (blk_cell X.out 0).trans rfl; have hX1 := (blk_cell X.out 1).trans rfl; have fX0 := blk_frozen X.out 0; have fX1 := blk_frozen X.out 1)
  refine bodyPost_ret (results_cell_row rfl _ _ W.heap.size 26 _ (0, 0) _ rfl (put2_blk X.out _ _) Tryz.underlying26 rfl (by kernel_rfl)) rfl ?_
  exact ⟨_, l, own, rfl, ⟨Kd.R_lower (row_far (row_far R.out.1 (p := ⟨W.heap.size, 0, none⟩) hXl _) (p := ⟨W.heap.size, 1, none⟩) hXl _) (Nat.le_of_lt hXl), R.out.2⟩, below_set (below_set HW.out (Nat.le_refl _)) (Nat.le_refl _)⟩


end Go.Proofs.YtjoeakahfomckaaGreat.Draw
