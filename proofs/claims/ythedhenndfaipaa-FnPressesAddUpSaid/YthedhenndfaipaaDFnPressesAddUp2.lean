/- What is drawn for FnPressesAddUp: within bounds, whatever it is. -/
import Derived.Test.YthedhenndfaipaaPFnPressesAddUpx
import Derived.Test.YthedhenndfaipaaQFnPressesAddUp0
import Derived.Test.YthedhenndfaipaaM1
import Derived.Test.YthedhenndfaipaaM17
import Derived.WalkKit
import Derived.RowKit3
import Derived.Deep.QuietTactic
import Derived.BigQuiet
import Derived.Deep.DeepCutAuto
import Derived.Deep.CutBlock
import Derived.Deep.LoopGhost
import Derived.Outline
import Derived.Deep.DeepFit
import Derived.Test.YthedhenndfaipaaDFnPressesAddUp0
import Derived.Test.YthedhenndfaipaaDFnPressesAddUp1
namespace Go.Proofs.Ythedhenndfaipaa.Draw
open Go.RowKit Go.Proofs.Ythedhenndfaipaa.PFnPressesAddUp Go.Proofs.YthedhenndfaipaaW.PrintWords Go.Proofs.YthedhenndfaipaaW.PrintLast Go.Proofs.YthedhenndfaipaaW.PrintMore Go.Proofs.YthedhenndfaipaaM Go.Proofs.Ythedhenndfaipaa.Pure
attribute [local go_sem] max2_int min2_int max_two min_two max_three min_three max_four min_four
set_option linter.unusedVariables false
set_option linter.unusedSimpArgs false
variable {w0 w w1 W : World} {g : Nat} {a : Int}
set_option maxRecDepth 100000 in
set_option maxHeartbeats 8000000 in
theorem DrawPressWord_any {W : World} {v : Value} {l0 : List Int} (h : Rb W v l0) : Calls Try.prog 8 #[v] W (DrawGSWP W) := by
  obtain ⟨A, c, rfl, hcl, hr, hx⟩ := h
  have hu := Try.underlying26
  have huc := Try.underlying40
  have HW := Aside0.mk (below_alloc (Below.refl W.heap.size W) (.cells #[.slice none 0 0, .bool false] 26))
  have X := Aside0.mk (blk_new W (.cells #[.slice none 0 0, .bool false] 26))
  have HR0 := Aside0.mk (Kd.C_alloc hr (.cells #[.slice none 0 0, .bool false] 26))
  have HXX := Aside0.mk hx
  clear hr hx hcl
  go_enter Try.func8, Try.ntmps8
  go_upto_region 1 with (fail)
  generalize W.alloc (.cells #[.slice none 0 0, .bool false] 26) = w1 at *
  have HC := Aside0.mk (Cur.new w1 A c l0 HR0.out HXX.out)
  have hXg := Nat.ne_of_lt (blk_lt X.out)
  have hX1 := blk_lt X.out
  have hRg : w1.heap.size < (w1.alloc (Obj.cells #[Value.slice A l0.length c, Value.int IntKind.i64 0, Value.int IntKind.u64 0] 40)).heap.size := by simp
  go_upto_region 3 with (go_at_call 19; (with_reducible refine (graph_any _ _ HC.out (by omega) (by omega) (by omega)).mono ?_); rintro e w2 ⟨z, l, own, rfl, hr, hll, hc, hk⟩; obtain ⟨A2, c2, rfl⟩ := Kd.R_slice hr; have nR := Aside0.mk hr; clear hr; have hXx := blk_alloc X.out (.cells #[.slice A l0.length c, .int .i64 0, .int .u64 0] 40); have nX := Aside0.mk (hk.blk hXx hXg (by simp)); have nC := Aside0.mk hc; have hYG := hc.lt; clear hc hk hXx HC X; have HC := nC; have X := nX; have R := nR; clear nC nX nR)
  have hY2 := blk_lt X.out
  have nY := Aside0.mk (blk_new w2 (.cells #[.slice A2 l.length c2, .bool own] 26)); have nC := Aside0.mk (HC.out.alloc (.cells #[.slice A2 l.length c2, .bool own] 26)); have nX := Aside0.mk (blk_alloc X.out (.cells #[.slice A2 l.length c2, .bool own] 26)); have nR := Aside0.mk (Kd.R_alloc R.out (.cells #[.slice A2 l.length c2, .bool own] 26)); clear HC X R; generalize World.alloc w2 (.cells #[.slice A2 l.length c2, .bool own] 26) = w3 at *; have HC := nC; clear nC; have hYg : w2.heap.size ≠ _ := Nat.ne_of_gt hYG; have Y := nY; clear nY; have X := nX; clear nX; have R := nR; clear nR
  (try clear hY0 hY1 fY0 fY1); have hY0 := (blk_cell Y.out 0).trans rfl; have hY1 := (blk_cell Y.out 1).trans rfl; have fY0 := blk_frozen Y.out 0; have fY1 := blk_frozen Y.out 1
  have hR2 := Aside0.mk (Own.of R.out)
  have hR3 := Aside0.mk (show w2.heap.size + 1 ≤ w3.heap.size from blk_lt Y.out)
  clear R
  have R := hR2
  have hYv := hR3.out
  clear hR2 hR3
  go_upto_region 5 with (go_at_call 25; (with_reducible refine (pick_any _ _ HC.out (by omega)).mono ?_); rintro e w4 ⟨q, rfl, hq0, hq1, hq, hc, hk⟩; have nC := Aside0.mk hc; have nX := Aside0.mk (hk.blk X.out hXg (by simp)); have nY := Aside0.mk (hk.blk Y.out hYg (by simp)); have nR := Aside0.mk (R.out.keep hk hRg); have nS := hk.1; clear hc hk HC X Y R hY0 hY1 fY0 fY1; have HC := nC; have X := nX; have Y := nY; have R := nR; clear nC nX nY nR)
  have hBg : w1.heap.size < w3.heap.size := by omega
  go_loopw [7, 8] (fun v7 v8 wr => ∃ (k : Int) (word : List Int), v8 = .int .i64 k ∧ 0 ≤ k ∧ k ≤ 12 ∧ Aside0 ((word.length : Int) + k ≤ 12) ∧ w3.heap.size ≤ wr.heap.size ∧ Aside0 (Cur w1 w1.heap.size (1000 - 10 * k) wr) ∧ Aside0 (wr.heap[W.heap.size]? = some (.cells #[.slice none 0 0, .bool false] 26 (0, 0))) ∧ Aside0 (wr.heap[w2.heap.size]? = some (.cells #[.slice A2 l.length c2, .bool own] 26 (0, 0))) ∧ Aside0 (Own wr (w1.alloc (Obj.cells #[Value.slice A l0.length c, Value.int IntKind.i64 0, Value.int IntKind.u64 0] 40)).heap.size w3.heap.size (.slice A2 l.length c2) l) ∧ Aside0 (Kd.R (Kd.int .i64) 3 wr w3.heap.size (fun _ => True) v7 word)) (fun _ v8 _ => (intOf v8).toNat)
  case atStart => exact ⟨q, [], rfl, hq0, by have h := hq.out; omega, ⟨by have h := hq.out; simp; omega⟩, nS, ⟨HC.out.le (by have h := hq.out; omega)⟩, X, Y, R, ⟨Kd.R_nil _ _ _ _ _⟩⟩
  case round =>
    clear HC X Y R nS
    obtain ⟨k, word, rfl, hk0, hk1, hkw, hS, HC, X, Y, R, HV⟩ := hrel
    by_cases hk : 0 < k
    · (try clear hY0 hY1 fY0 fY1); have hY0 := (blk_cell Y.out 0).trans rfl; have hY1 := (blk_cell Y.out 1).trans rfl; have fY0 := blk_frozen Y.out 0; have fY1 := blk_frozen Y.out 1
      go_wp2_with (first
        | (go_at_call 26; (with_reducible refine (most_any _ _ _).mono ?_); rintro e w5 ⟨m, nm, rfl, hm0, hm1, hm, rfl⟩; have nC := Aside0.mk (HC.out.drewN nm); have nX := Aside0.mk (blk_drewN X.out nm); have nY := Aside0.mk (blk_drewN Y.out nm); have nR := Aside0.mk (R.out.drewN nm); have nV := Aside0.mk (Kd.R_drewN HV.out nm); clear HC X Y R HV; have HC := nC; have X := nX; have Y := nY; have R := nR; have HV := nV; clear nC nX nY nR nV)
        | (go_at_call 25; (with_reducible refine (pick_any _ _ HC.out (by omega)).mono ?_); rintro e w6 ⟨t, rfl, ht0, ht1, ht, hc, hk⟩; have nC := Aside0.mk hc; have nX := Aside0.mk (hk.blk (X.out) hXg (by simp)); have nY := Aside0.mk (hk.blk (Y.out) hYg (by simp)); have nR := Aside0.mk ((R.out).keep hk hRg); have nV := Aside0.mk (row_keep (HV.out) hk hBg); have nS := (Nat.le_trans (by simpa using hS) hk.1 : w3.heap.size ≤ w6.heap.size); clear hc hk HC X Y R HV hS; (try clear hY0 hY1 fY0 fY1); have HC := nC; have X := nX; have Y := nY; have R := nR; have HV := nV; have hS := nS; clear nC nX nY nR nV nS)
        | ((with_reducible refine gate_builtin (b := .append) (xs := #[.tmp 20, .tmp 27]) rfl ?_); at_builtin; refine Kd.R_append (Kd.int .i64) w3.heap.size rfl (.tmp 20) (.tmp 27) 24 3 (.int .i64 0) 8 rfl Try.underlying24 info3 rfl (by decide) (by omega) (u7) word (t) [.int .i64 (t)] (fun _ => True) (fun _ => False) rfl (by first | (go_simp; done) | (go_simp; rfl)) ?aP (fun _ hk => hk.elim) (fun _ _ => trivial) HV.out (Below.refl _ _) ?aS ?aL ?_; (case aP => exact rfl); (case aS => exact hS); (case aL => have h := hkw.out; omega); intro v7 w7 ho hb _ _; have nC := Aside0.mk (HC.out.low hb (by omega) (by omega)); have nX := Aside0.mk (blk_low X.out hb (by omega)); have nY := Aside0.mk (blk_low Y.out hb (by omega)); have nR := Aside0.mk (R.out.low hb (Nat.le_refl _)); have nV := Aside0.mk ho; have nS := Nat.le_trans hS hb.size; clear hb ho HC X Y R HV hS; have HC := nC; have X := nX; have Y := nY; have R := nR; have HV := nV; have hS := nS; clear nC nX nY nR nV nS))
      go_roundw
      case rel => exact ⟨k - 1, _, rfl, by omega, by omega, ⟨by have h := hkw.out; simp; omega⟩, hS, ⟨HC.out.le (by omega)⟩, X, Y, R, HV⟩
      case measure => simp [intOf]; omega
    · go_upto_region 9 with (go_at_call 25; (with_reducible refine (pick_any _ _ HC.out (by omega)).mono ?_); rintro e w6 ⟨t, rfl, ht0, ht1, ht, hc, hk⟩; have nC := Aside0.mk hc; have nX := Aside0.mk (hk.blk (X.out) hXg (by simp)); have nY := Aside0.mk (hk.blk (Y.out) hYg (by simp)); have nR := Aside0.mk ((R.out).keep hk hRg); have nV := Aside0.mk (row_keep (HV.out) hk hBg); have nS := Nat.le_trans hS hk.1; clear hc hk HC X Y R HV hS; (try clear hY0 hY1 fY0 fY1); have HC := nC; have X := nX; have Y := nY; have R := nR; have HV := nV; have hS := nS; clear nC nX nY nR nV nS)
      (try clear hY0 hY1 fY0 fY1); have hY0 := (blk_cell Y.out 0).trans rfl; have hY1 := (blk_cell Y.out 1).trans rfl; have fY0 := blk_frozen Y.out 0; have fY1 := blk_frozen Y.out 1
      have hk12 : (word.length : Int) ≤ 12 := by have h := hkw.out; omega
      by_cases e0 : t = 0
      · subst e0
        go_upto_region 13 with (first
          | (go_at_call 27; refine (among_lit _ (HC.out.alloc _) (by omega) (C_lit _ [_, _] (by simp)) (by have h := HC.out.lt; omega) rfl (by simp)).mono ?_; rintro e w7 ⟨x, rfl, hx, hc, hk⟩; have nC := Aside0.mk hc; have nX := Aside0.mk (hk.blk (blk_alloc X.out _) hXg (by simp)); have nY := Aside0.mk (hk.blk (blk_alloc Y.out _) hYg (by simp)); have nR := Aside0.mk ((R.out.alloc _).keep hk hRg); have nV := Aside0.mk (row_keep (Kd.R_alloc HV.out _) hk hBg); have nS := (Nat.le_trans (by simp; omega) hk.1 : w3.heap.size ≤ w7.heap.size); clear hc hk HC X Y R HV hS; (try clear hY0 hY1 fY0 fY1); (try clear hX0 hX1 fX0 fX1); have HC := nC; have X := nX; have Y := nY; have R := nR; have HV := nV; have hS := nS; clear nC nX nY nR nV nS)
          | ((with_reducible refine gate_builtin (b := .append) (xs := #[.tmp 33, .tmp 40]) rfl ?_); at_builtin; refine Kd.R_append (Kd.int .i64) w3.heap.size rfl (.tmp 33) (.tmp 40) 24 3 (.int .i64 0) 8 rfl Try.underlying24 info3 rfl (by decide) (by omega) (u7) word (x) [.int .i64 (x)] (fun _ => True) (fun _ => False) rfl (by first | (go_simp; done) | (go_simp; rfl)) ?aP (fun _ hk => hk.elim) (fun _ _ => trivial) HV.out (Below.refl _ _) ?aS ?aL ?_; (case aP => exact rfl); (case aS => exact hS); (case aL => omega); intro v8 w8 ho hb _ _; have nC := Aside0.mk (HC.out.low hb (by omega) (by omega)); have nX := Aside0.mk (blk_low X.out hb (by omega)); have nY := Aside0.mk (blk_low Y.out hb (by omega)); have nR := Aside0.mk (R.out.low hb (Nat.le_refl _)); have nV := Aside0.mk ho; have nS := Nat.le_trans hS hb.size; clear hb ho HC X Y R HV hS; (try clear hY0 hY1 fY0 fY1); have HC := nC; have X := nX; have Y := nY; have R := nR; have HV := nV; have hS := nS; clear nC nX nY nR nV nS))
        have HWL := Aside0.mk (show (word ++ [x]).length ≤ 1048576 by simp; omega)
        (try clear hY0 hY1 fY0 fY1)
        have hY0 := (blk_cell Y.out 0).trans rfl
        have hY1 := (blk_cell Y.out 1).trans rfl
        have hX0 := (blk_cell X.out 0).trans rfl
        have hX1 := (blk_cell X.out 1).trans rfl
        have fX0 := blk_frozen X.out 0
        have fX1 := blk_frozen X.out 1
        go_region_held3 (fun w' => w'.cell? ⟨w2.heap.size, 0, none⟩ = some (.slice A2 l.length c2) ∧ w'.cell? ⟨w2.heap.size, 1, none⟩ = some (.bool own)) (first | exact ⟨hY0, hY1⟩ | exact ⟨cell_far2 hY0 (by simp only; omega), cell_far2 hY1 (by simp only; omega)⟩ | exact ⟨cell_far2 (cell_far2 hY0 (by simp only; omega)) (by simp only; omega), cell_far2 (cell_far2 hY1 (by simp only; omega)) (by simp only; omega)⟩ | go_keep) ((go_at_call 20; (with_reducible refine (set_any own _ HC.out.drew (by omega) (by omega)).mono ?_); rintro e w9 ⟨a9, rfl, hc, hk⟩; have nC := Aside0.mk hc; have nX := Aside0.mk (hk.blk (blk_drew X.out) hXg (by simp)); have nY := Aside0.mk (hk.blk (blk_drew Y.out) hYg (by simp)); have nR := Aside0.mk ((R.out.drew).keep hk hRg); have nV := Aside0.mk (row_keep (Kd.R_drew HV.out) hk hBg); have nS := Nat.le_trans hS hk.1; clear hc hk HC X Y R HV hS; (try clear hY0 hY1 fY0 fY1); (try clear hX0 hX1 fX0 fX1); have HC := nC; have X := nX; have Y := nY; have R := nR; have HV := nV; have hS := nS; clear nC nX nY nR nV nS; (try clear hY0 hY1 fY0 fY1); have hY0 := (blk_cell Y.out 0).trans rfl; have hY1 := (blk_cell Y.out 1).trans rfl; have hX0 := (blk_cell X.out 0).trans rfl; have hX1 := (blk_cell X.out 1).trans rfl; have fX0 := blk_frozen X.out 0; have fX1 := blk_frozen X.out 1))
        go_wp2
        refine bodyPost_ret (results_ctt rfl _ _ W.heap.size 26 _ (0, 0) _ rfl (put2_blk X.out _ _) Try.underlying26 rfl (by kernel_rfl)) rfl ?_
        exact ⟨_, l, own, _, _, _, rfl, Rd.of (row_far (row_far R.out (p := ⟨W.heap.size, 0, none⟩) (by simp only; omega) _) (p := ⟨W.heap.size, 1, none⟩) (by simp only; omega) _) (by omega), Rd.of (row_far (row_far HV.out (p := ⟨W.heap.size, 0, none⟩) (by simp only; omega) _) (p := ⟨W.heap.size, 1, none⟩) (by simp only; omega) _) HWL.out, below_set (below_set (below_step HW.out HC.out.base) (Nat.le_refl _)) (Nat.le_refl _)⟩
      have e0b : (t == 0) = false := by simpa using e0
      by_cases e1 : t = 1
      · subst e1
        go_upto_region 13 with (first
          | (go_at_call 25; (with_reducible refine (pick_any _ _ HC.out (by omega)).mono ?_); rintro e w7 ⟨x, rfl, hx0, hx1, hx, hc, hk⟩; have nC := Aside0.mk hc; have nX := Aside0.mk (hk.blk (X.out) hXg (by simp)); have nY := Aside0.mk (hk.blk (Y.out) hYg (by simp)); have nR := Aside0.mk ((R.out).keep hk hRg); have nV := Aside0.mk (row_keep (HV.out) hk hBg); have nS := Nat.le_trans hS hk.1; clear hc hk HC X Y R HV hS; (try clear hY0 hY1 fY0 fY1); (try clear hX0 hX1 fX0 fX1); have HC := nC; have X := nX; have Y := nY; have R := nR; have HV := nV; have hS := nS; clear nC nX nY nR nV nS)
          | ((with_reducible refine gate_dst (N := 47) rfl ?_); refine Kd.R_make (Kd.int .i64) _ 3 rfl (N := 47) rfl 24 _ _ rfl (200 + x) rfl rfl Try.underlying24 (.int .i64 0) 8 info3 rfl (by decide) (by omega) 0 (ok := fun _ => True) (okp := fun _ => True) rfl (fun _ hk => hk) trivial (by omega) (by have h := hx.out; omega) (Below.refl _ _) (Nat.le_refl _) ?_; intro v8 w8 ho hb _ _; have hb := hb.mono hS; have ho := Kd.R_lower ho hS; have nC := Aside0.mk (HC.out.low hb (by omega) (by omega)); have nX := Aside0.mk (blk_low X.out hb (by omega)); have nY := Aside0.mk (blk_low Y.out hb (by omega)); have nR := Aside0.mk (R.out.low hb (Nat.le_refl _)); have nV := Aside0.mk ho; have nS := Nat.le_trans hS hb.size; clear hb ho HC X Y R HV hS; (try clear hY0 hY1 fY0 fY1); have HC := nC; have X := nX; have Y := nY; have R := nR; have HV := nV; have hS := nS; clear nC nX nY nR nV nS))
        have HWL := Aside0.mk (show (List.replicate (200 + x).toNat (0 : Int)).length ≤ 1048576 by have h := hx.out; simp; omega)
        (try clear hY0 hY1 fY0 fY1)
        have hY0 := (blk_cell Y.out 0).trans rfl
        have hY1 := (blk_cell Y.out 1).trans rfl
        have hX0 := (blk_cell X.out 0).trans rfl
        have hX1 := (blk_cell X.out 1).trans rfl
        have fX0 := blk_frozen X.out 0
        have fX1 := blk_frozen X.out 1
        go_region_held3 (fun w' => w'.cell? ⟨w2.heap.size, 0, none⟩ = some (.slice A2 l.length c2) ∧ w'.cell? ⟨w2.heap.size, 1, none⟩ = some (.bool own)) (first | exact ⟨hY0, hY1⟩ | exact ⟨cell_far2 hY0 (by simp only; omega), cell_far2 hY1 (by simp only; omega)⟩ | exact ⟨cell_far2 (cell_far2 hY0 (by simp only; omega)) (by simp only; omega), cell_far2 (cell_far2 hY1 (by simp only; omega)) (by simp only; omega)⟩ | go_keep) ((go_at_call 20; (with_reducible refine (set_any own _ HC.out.drew (by omega) (by omega)).mono ?_); rintro e w9 ⟨a9, rfl, hc, hk⟩; have nC := Aside0.mk hc; have nX := Aside0.mk (hk.blk (blk_drew X.out) hXg (by simp)); have nY := Aside0.mk (hk.blk (blk_drew Y.out) hYg (by simp)); have nR := Aside0.mk ((R.out.drew).keep hk hRg); have nV := Aside0.mk (row_keep (Kd.R_drew HV.out) hk hBg); have nS := Nat.le_trans hS hk.1; clear hc hk HC X Y R HV hS; (try clear hY0 hY1 fY0 fY1); (try clear hX0 hX1 fX0 fX1); have HC := nC; have X := nX; have Y := nY; have R := nR; have HV := nV; have hS := nS; clear nC nX nY nR nV nS; (try clear hY0 hY1 fY0 fY1); have hY0 := (blk_cell Y.out 0).trans rfl; have hY1 := (blk_cell Y.out 1).trans rfl; have hX0 := (blk_cell X.out 0).trans rfl; have hX1 := (blk_cell X.out 1).trans rfl; have fX0 := blk_frozen X.out 0; have fX1 := blk_frozen X.out 1))
        go_wp2
        refine bodyPost_ret (results_ctt rfl _ _ W.heap.size 26 _ (0, 0) _ rfl (put2_blk X.out _ _) Try.underlying26 rfl (by kernel_rfl)) rfl ?_
        exact ⟨_, l, own, _, _, _, rfl, Rd.of (row_far (row_far R.out (p := ⟨W.heap.size, 0, none⟩) (by simp only; omega) _) (p := ⟨W.heap.size, 1, none⟩) (by simp only; omega) _) (by omega), Rd.of (row_far (row_far HV.out (p := ⟨W.heap.size, 0, none⟩) (by simp only; omega) _) (p := ⟨W.heap.size, 1, none⟩) (by simp only; omega) _) HWL.out, below_set (below_set (below_step HW.out HC.out.base) (Nat.le_refl _)) (Nat.le_refl _)⟩
      have e1b : (t == 1) = false := by simpa using e1
      · go_upto_region 13 with (fail)
        have HWL := Aside0.mk (show word.length ≤ 1048576 by omega)
        (try clear hY0 hY1 fY0 fY1)
        have hY0 := (blk_cell Y.out 0).trans rfl
        have hY1 := (blk_cell Y.out 1).trans rfl
        have hX0 := (blk_cell X.out 0).trans rfl
        have hX1 := (blk_cell X.out 1).trans rfl
        have fX0 := blk_frozen X.out 0
        have fX1 := blk_frozen X.out 1
        go_region_held3 (fun w' => w'.cell? ⟨w2.heap.size, 0, none⟩ = some (.slice A2 l.length c2) ∧ w'.cell? ⟨w2.heap.size, 1, none⟩ = some (.bool own)) (first | exact ⟨hY0, hY1⟩ | exact ⟨cell_far2 hY0 (by simp only; omega), cell_far2 hY1 (by simp only; omega)⟩ | exact ⟨cell_far2 (cell_far2 hY0 (by simp only; omega)) (by simp only; omega), cell_far2 (cell_far2 hY1 (by simp only; omega)) (by simp only; omega)⟩ | go_keep) ((go_at_call 20; (with_reducible refine (set_any own _ HC.out.drew (by omega) (by omega)).mono ?_); rintro e w9 ⟨a9, rfl, hc, hk⟩; have nC := Aside0.mk hc; have nX := Aside0.mk (hk.blk (blk_drew X.out) hXg (by simp)); have nY := Aside0.mk (hk.blk (blk_drew Y.out) hYg (by simp)); have nR := Aside0.mk ((R.out.drew).keep hk hRg); have nV := Aside0.mk (row_keep (Kd.R_drew HV.out) hk hBg); have nS := Nat.le_trans hS hk.1; clear hc hk HC X Y R HV hS; (try clear hY0 hY1 fY0 fY1); (try clear hX0 hX1 fX0 fX1); have HC := nC; have X := nX; have Y := nY; have R := nR; have HV := nV; have hS := nS; clear nC nX nY nR nV nS; (try clear hY0 hY1 fY0 fY1); have hY0 := (blk_cell Y.out 0).trans rfl; have hY1 := (blk_cell Y.out 1).trans rfl; have hX0 := (blk_cell X.out 0).trans rfl; have hX1 := (blk_cell X.out 1).trans rfl; have fX0 := blk_frozen X.out 0; have fX1 := blk_frozen X.out 1))
        go_wp2
        refine bodyPost_ret (results_ctt rfl _ _ W.heap.size 26 _ (0, 0) _ rfl (put2_blk X.out _ _) Try.underlying26 rfl (by kernel_rfl)) rfl ?_
        exact ⟨_, l, own, _, _, _, rfl, Rd.of (row_far (row_far R.out (p := ⟨W.heap.size, 0, none⟩) (by simp only; omega) _) (p := ⟨W.heap.size, 1, none⟩) (by simp only; omega) _) (by omega), Rd.of (row_far (row_far HV.out (p := ⟨W.heap.size, 0, none⟩) (by simp only; omega) _) (p := ⟨W.heap.size, 1, none⟩) (by simp only; omega) _) HWL.out, below_set (below_set (below_step HW.out HC.out.base) (Nat.le_refl _)) (Nat.le_refl _)⟩
/-! What presses return. -/
theorem impl_PressAll.sem {W : World} {v : Value} {l : List Int} (own : Bool) (s : Int) (p : Int) {x : Int} {ok : Bool} (h : Rd W v l) (hr : pressAll l own s p = (x, ok)) : Calls Try.prog 6 #[.agg #[v, .bool own], .int .i64 s, .int .i64 p] W fun e W' => e = .returned (.tuple #[.int .i64 x, .bool ok]) ∧ Below W.heap.size W W' := by
  obtain ⟨A, c, rfl, hc, hC, hl⟩ := h
  obtain ⟨K, hK⟩ := ev_get (impl_PressAll.ev l own s p)
  exact impl_PressAll.calls K A c l own s p x ok W hC hc ((hK K (Nat.le_refl _)).trans (by rw [hr]))

theorem spec_PressAll.sem {W : World} {v : Value} {l : List Int} (own : Bool) (s : Int) (p : Int) {x : Int} {ok : Bool} (h : Rd W v l) (hr : pressAll l own s p = (x, ok)) : Calls Try.prog 7 #[.agg #[v, .bool own], .int .i64 s, .int .i64 p] W fun e W' => e = .returned (.tuple #[.int .i64 x, .bool ok]) ∧ Below W.heap.size W W' := by
  obtain ⟨A, c, rfl, hc, hC, hl⟩ := h
  obtain ⟨K, hK⟩ := ev_get (spec_PressAll.ev l own s p (by omega))
  exact spec_PressAll.calls K A c l own s p x ok W hC hc ((hK K (Nat.le_refl _)).trans (by rw [hr]))

theorem impl_PressWord.sem {W : World} {v v2 : Value} {l p : List Int} (own : Bool) (s : Int) {x : Int} {ok : Bool} (h : Rd W v l) (h2 : Rd W v2 p) (hr : pressWord l own s p = (x, ok)) : Calls Try.prog 9 #[.agg #[v, .bool own], .int .i64 s, v2] W fun e W' => e = .returned (.tuple #[.int .i64 x, .bool ok]) ∧ Below W.heap.size W W' := by
  obtain ⟨A, c, rfl, hc, hC, hl⟩ := h
  obtain ⟨A2, c2, rfl, hc2, hC2, hl2⟩ := h2
  obtain ⟨K, hK⟩ := ev_get (impl_PressWord.ev l own s p (by omega))
  exact impl_PressWord.calls K A c l own s A2 c2 p x ok W hC hc hC2 hc2 ((hK K (Nat.le_refl _)).trans (by rw [hr]))

theorem spec_PressWord.sem {W : World} {v v2 : Value} {l p : List Int} (own : Bool) (s : Int) {x : Int} {ok : Bool} (h : Rd W v l) (h2 : Rd W v2 p) (hr : pressWord l own s p = (x, ok)) : Calls Try.prog 10 #[.agg #[v, .bool own], .int .i64 s, v2] W fun e W' => e = .returned (.tuple #[.int .i64 x, .bool ok]) ∧ Below W.heap.size W W' := by
  obtain ⟨A, c, rfl, hc, hC, hl⟩ := h
  obtain ⟨A2, c2, rfl, hc2, hC2, hl2⟩ := h2
  obtain ⟨K, hK⟩ := ev_get (spec_PressWord.ev l own s p (by omega) (by omega))
  exact spec_PressWord.calls K A c l own s A2 c2 p x ok W hC hc hC2 hc2 ((hK K (Nat.le_refl _)).trans (by rw [hr]))

theorem impl_PressButton.sem {W : World} {v : Value} {l : List Int} (own : Bool) (s : Int) (i : Int) {x : Int} {ok : Bool} (h : Rd W v l) (hr : pressWord l own s [i] = (x, ok)) : Calls Try.prog 11 #[.agg #[v, .bool own], .int .i64 s, .int .i64 i] W fun e W' => e = .returned (.tuple #[.int .i64 x, .bool ok]) ∧ Below W.heap.size W W' := by
  obtain ⟨A, c, rfl, hc, hC, hl⟩ := h
  obtain ⟨K, hK⟩ := ev_get (impl_PressButton.ev l own s i)
  exact impl_PressButton.calls K A c l own s i x ok W hC hc ((hK K (Nat.le_refl _)).trans (by rw [hr]))

theorem spec_PressButton.sem {W : World} {v : Value} {l : List Int} (own : Bool) (s : Int) (i : Int) {x : Int} {ok : Bool} (h : Rd W v l) (hr : pressWord l own s [i] = (x, ok)) : Calls Try.prog 13 #[.agg #[v, .bool own], .int .i64 s, .int .i64 i] W fun e W' => e = .returned (.tuple #[.int .i64 x, .bool ok]) ∧ Below W.heap.size W W' := by
  obtain ⟨A, c, rfl, hc, hC, hl⟩ := h
  obtain ⟨K, hK⟩ := ev_get (spec_PressButton.ev l own s i (by omega))
  exact spec_PressButton.calls K A c l own s i x ok W hC hc ((hK K (Nat.le_refl _)).trans (by rw [hr]))

theorem impl_TogglesOf.sem {W : World} {v : Value} {l : List Int} (own : Bool) (i : Int) {x : Int} {ok : Bool} (h : Rd W v l) (hr : togglesOf l own i = (x, ok)) : Calls Try.prog 15 #[.agg #[v, .bool own], .int .i64 i] W fun e W' => e = .returned (.tuple #[.int .i64 x, .bool ok]) ∧ Below W.heap.size W W' := by
  obtain ⟨A, c, rfl, hc, hC, hl⟩ := h
  obtain ⟨K, hK⟩ := ev_get (impl_TogglesOf.ev l own i)
  exact impl_TogglesOf.calls K A c l own i x ok W hC hc ((hK K (Nat.le_refl _)).trans (by rw [hr]))

theorem spec_TogglesOf.sem {W : World} {v : Value} {l : List Int} (own : Bool) (i : Int) {x : Int} {ok : Bool} (h : Rd W v l) (hr : togglesOf l own i = (x, ok)) : Calls Try.prog 16 #[.agg #[v, .bool own], .int .i64 i] W fun e W' => e = .returned (.tuple #[.int .i64 x, .bool ok]) ∧ Below W.heap.size W W' := by
  obtain ⟨A, c, rfl, hc, hC, hl⟩ := h
  obtain ⟨K, hK⟩ := ev_get (spec_TogglesOf.ev l own i (by omega))
  exact spec_TogglesOf.calls K A c l own i x ok W hC hc ((hK K (Nat.le_refl _)).trans (by rw [hr]))

theorem impl_EffectOf.sem {W : World} {v : Value} {l : List Int} (own : Bool) (p : Int) {x : Int} {ok : Bool} (h : Rd W v l) (hr : pressAll l own 0 p = (x, ok)) : Calls Try.prog 17 #[.agg #[v, .bool own], .int .i64 p] W fun e W' => e = .returned (.tuple #[.int .i64 x, .bool ok]) ∧ Below W.heap.size W W' := by
  obtain ⟨A, c, rfl, hc, hC, hl⟩ := h
  obtain ⟨K, hK⟩ := ev_get (impl_EffectOf.ev l own p)
  exact impl_EffectOf.calls K A c l own p x ok W hC hc ((hK K (Nat.le_refl _)).trans (by rw [hr]))

theorem spec_EffectOf.sem {W : World} {v : Value} {l : List Int} (own : Bool) (p : Int) {x : Int} {ok : Bool} (h : Rd W v l) (hr : pressAll l own 0 p = (x, ok)) : Calls Try.prog 18 #[.agg #[v, .bool own], .int .i64 p] W fun e W' => e = .returned (.tuple #[.int .i64 x, .bool ok]) ∧ Below W.heap.size W W' := by
  obtain ⟨A, c, rfl, hc, hC, hl⟩ := h
  obtain ⟨K, hK⟩ := ev_get (spec_EffectOf.ev l own p (by omega))
  exact spec_EffectOf.calls K A c l own p x ok W hC hc ((hK K (Nat.le_refl _)).trans (by rw [hr]))

end Go.Proofs.Ythedhenndfaipaa.Draw
