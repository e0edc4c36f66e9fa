/- What is drawn for FnLitPresses: within bounds, whatever it is. -/
import Derived.Test.YtjkijnggjjoheaaPFnLitPressesx
import Derived.Test.YtjkijnggjjoheaaQFnLitPresses0
import Derived.Test.YtjkijnggjjoheaaQFnLitPresses1
import Derived.Test.YtjkijnggjjoheaaM1
import Derived.Test.YtjkijnggjjoheaaM18
import Derived.Test.YtjkijnggjjoheaaM19
import Derived.WalkKit
import Derived.RowKit3
import Derived.Deep.QuietTactic
import Derived.BigQuiet
import Derived.Deep.DeepCutAuto
import Derived.Deep.CutBlock
import Derived.Deep.LoopGhost
import Derived.Outline
import Derived.Deep.DeepFit
import Derived.Test.YtjkijnggjjoheaaDFnLitPresses0
import Derived.Test.YtjkijnggjjoheaaDFnLitPresses1
import Derived.Test.YtjkijnggjjoheaaDFnLitPresses2
namespace Go.Proofs.Ytjkijnggjjoheaa.Draw
open Go.RowKit Go.Proofs.Ytjkijnggjjoheaa.PFnLitPresses Go.Proofs.YtjkijnggjjoheaaW.PrintWords Go.Proofs.YtjkijnggjjoheaaW.PrintLast Go.Proofs.YtjkijnggjjoheaaW.PrintMore Go.Proofs.YtjkijnggjjoheaaM Go.Proofs.Ytjkijnggjjoheaa.Pure
attribute [local go_sem] max2_int min2_int max_two min_two max_three min_three max_four min_four
set_option linter.unusedVariables false
set_option linter.unusedSimpArgs false
variable {w0 w w1 W : World} {g : Nat} {a : Int}
/-! Draws of lit words. -/
set_option maxRecDepth 100000 in
set_option maxHeartbeats 8000000 in
theorem DrawLitWord_any {W : World} {v : Value} {l0 : List Int} (h : Rb W v l0) : Calls Try.prog 29 #[v] W (DrawGSWP W) := by
  obtain ⟨A, c, rfl, hcl, hr, hx⟩ := h
  have hu := Try.underlying26
  have huc := Try.underlying62
  have HW := Aside0.mk (below_alloc (Below.refl W.heap.size W) (.cells #[.slice none 0 0, .bool false] 26))
  have X := Aside0.mk (blk_new W (.cells #[.slice none 0 0, .bool false] 26))
  have HR0 := Aside0.mk (Kd.C_alloc hr (.cells #[.slice none 0 0, .bool false] 26))
  have HXX := Aside0.mk hx
  clear hr hx hcl
  go_enter Try.func29, Try.ntmps29
  go_upto_region 1 with (fail)
  generalize W.alloc (.cells #[.slice none 0 0, .bool false] 26) = w1 at *
  have HC := Aside0.mk (Cur.new w1 A c l0 HR0.out HXX.out)
  have hXg := Nat.ne_of_lt (blk_lt X.out)
  have hXl := blk_lt X.out
  have hRg : w1.heap.size < (w1.alloc (Obj.cells #[Value.slice A l0.length c, Value.int IntKind.i64 0, Value.int IntKind.u64 0] 62)).heap.size := by simp
  go_upto_region 3 with (go_at_call 49; (with_reducible refine (lit_any 8 _ HC.out (by omega) (by omega) (by omega)).mono ?_); rintro e w2 ⟨z, l, own, s, rfl, hr, hll, hc, hk⟩; obtain ⟨A2, c2, rfl⟩ := Kd.R_slice hr; have hXx := blk_alloc X.out (.cells #[.slice A l0.length c, .int .i64 0, .int .u64 0] 62); have nX := Aside0.mk (hk.blk hXx hXg (by simp)); have R := Aside0.mk hr; clear HC X hk hr hXx; have HC := Aside0.mk hc; have X := nX; clear hc nX; (try clear hX0 hX1 fX0 fX1); have hX0 := (blk_cell X.out 0).trans rfl; have hX1 := (blk_cell X.out 1).trans rfl; have fX0 := blk_frozen X.out 0; have fX1 := blk_frozen X.out 1)
  have hY2 := blk_lt X.out
  have hRo := Aside0.mk (Own.of R.out)
  have hYG := HC.out.lt
  clear R
  have R := hRo
  clear hRo
  (try clear hX0 hX1 fX0 fX1)
  have nX := Aside0.mk (blk_alloc X.out (.cells #[.slice A2 l.length c2, .bool own] 26))
  have nR := Aside0.mk (R.out.alloc (.cells #[.slice A2 l.length c2, .bool own] 26))
  have nC := Aside0.mk (HC.out.alloc (.cells #[.slice A2 l.length c2, .bool own] 26))
  have Y := Aside0.mk (blk_new w2 (.cells #[.slice A2 l.length c2, .bool own] 26))
  clear HC X R
  generalize World.alloc w2 (.cells #[.slice A2 l.length c2, .bool own] 26) = w3 at *
  have HC := nC
  have X := nX
  have R := nR
  clear nC nX nR
  have hYg : w2.heap.size ≠ w1.heap.size := Nat.ne_of_gt hYG
  have hYv : w2.heap.size + 1 ≤ w3.heap.size := blk_lt Y.out
  (try clear hY0 hY1 fY0 fY1); have hY0 := (blk_cell Y.out 0).trans rfl; have hY1 := (blk_cell Y.out 1).trans rfl; have fY0 := blk_frozen Y.out 0; have fY1 := blk_frozen Y.out 1
  have hS : w3.heap.size ≤ w3.heap.size := Nat.le_refl _
  obtain ⟨sb, hq_⟩ : ∃ r, (setOk l s) = r := ⟨_, rfl⟩; have SB := Aside0.mk hq_; clear hq_
  cases sb
  · go_upto_region 14 with (go_at_call 45; (with_reducible refine (spec_liSet.sem own s (R.out.rd (by omega)) SB.out).mono ?_); rintro e w4 ⟨rfl, hb⟩; have hc := HC.out.below hb; have hk := HC.out.keepB hb; have nHC := Aside0.mk hc; have nX := Aside0.mk (hk.blk (X.out) hXg (by simp)); have nY := Aside0.mk (hk.blk (Y.out) hYg (by simp)); have nR := Aside0.mk (Own.keep (R.out) hk hRg); have nhS := Nat.le_trans hS hk.1; (try clear hY0 hY1 fY0 fY1); (try clear hX0 hX1 fX0 fX1); (try clear hb); (try clear ho); (try clear hc hk); clear HC X Y R hS; have HC := nHC; clear nHC; have X := nX; clear nX; have Y := nY; clear nY; have R := nR; clear nR; have hS := nhS; clear nhS; (try clear hY0 hY1 fY0 fY1); have hY0 := (blk_cell Y.out 0).trans rfl; have hY1 := (blk_cell Y.out 1).trans rfl; have fY0 := blk_frozen Y.out 0; have fY1 := blk_frozen Y.out 1; (try clear hX0 hX1 fX0 fX1); have hX0 := (blk_cell X.out 0).trans rfl; have hX1 := (blk_cell X.out 1).trans rfl; have fX0 := blk_frozen X.out 0; have fX1 := blk_frozen X.out 1)
    go_region_held3 (fun w' => w'.cell? ⟨w2.heap.size, 0, none⟩ = some (.slice A2 l.length c2) ∧ w'.cell? ⟨w2.heap.size, 1, none⟩ = some (.bool own)) (first | exact ⟨hY0, hY1⟩ | exact ⟨cell_far2 hY0 (by simp only; omega), cell_far2 hY1 (by simp only; omega)⟩ | exact ⟨cell_far2 (cell_far2 hY0 (by simp only; omega)) (by simp only; omega), cell_far2 (cell_far2 hY1 (by simp only; omega)) (by simp only; omega)⟩ | go_keep) (first | (go_at_call 59; (with_reducible refine (word7_any own _ HC.out.drew (by omega) (by omega)).mono ?_); rintro e w5 ⟨u5, m5, rfl, hv, hm5, hc, hk⟩; have HV := Aside0.mk (Kd.R_lower hv hS); clear hv; have nHC := Aside0.mk hc; have nX := Aside0.mk (hk.blk (blk_drew X.out) hXg (by simp)); have nY := Aside0.mk (hk.blk (blk_drew Y.out) hYg (by simp)); have nR := Aside0.mk (Own.keep (Own.drew R.out) hk hRg); (try clear hY0 hY1 fY0 fY1); (try clear hX0 hX1 fX0 fX1); (try clear hb); (try clear ho); (try clear hc hk); clear HC X Y R; have HC := nHC; clear nHC; have X := nX; clear nX; have Y := nY; clear nY; have R := nR; clear nR; (try clear hY0 hY1 fY0 fY1); have hY0 := (blk_cell Y.out 0).trans rfl; have hY1 := (blk_cell Y.out 1).trans rfl; have fY0 := blk_frozen Y.out 0; have fY1 := blk_frozen Y.out 1; (try clear hX0 hX1 fX0 fX1); have hX0 := (blk_cell X.out 0).trans rfl; have hX1 := (blk_cell X.out 1).trans rfl; have fX0 := blk_frozen X.out 0; have fX1 := blk_frozen X.out 1) | (go_at_call 59; (with_reducible refine (word7_any own _ HC.out (by omega) (by omega)).mono ?_); rintro e w5 ⟨u5, m5, rfl, hv, hm5, hc, hk⟩; have HV := Aside0.mk (Kd.R_lower hv hS); clear hv; have nHC := Aside0.mk hc; have nX := Aside0.mk (hk.blk (X.out) hXg (by simp)); have nY := Aside0.mk (hk.blk (Y.out) hYg (by simp)); have nR := Aside0.mk (Own.keep (R.out) hk hRg); (try clear hY0 hY1 fY0 fY1); (try clear hX0 hX1 fX0 fX1); (try clear hb); (try clear ho); (try clear hc hk); clear HC X Y R; have HC := nHC; clear nHC; have X := nX; clear nX; have Y := nY; clear nY; have R := nR; clear nR; (try clear hY0 hY1 fY0 fY1); have hY0 := (blk_cell Y.out 0).trans rfl; have hY1 := (blk_cell Y.out 1).trans rfl; have fY0 := blk_frozen Y.out 0; have fY1 := blk_frozen Y.out 1; (try clear hX0 hX1 fX0 fX1); have hX0 := (blk_cell X.out 0).trans rfl; have hX1 := (blk_cell X.out 1).trans rfl; have fX0 := blk_frozen X.out 0; have fX1 := blk_frozen X.out 1))
    (go_wp2; refine bodyPost_ret (results_ctt rfl _ _ W.heap.size 26 _ (0, 0) _ rfl (put2_blk X.out _ _) Try.underlying26 rfl (by kernel_rfl)) rfl ?_; exact ⟨_, l, own, _, _, _, rfl, ⟨Kd.R_lower (row_far (row_far R.out (p := ⟨W.heap.size, 0, none⟩) (by simp only; omega) _) (p := ⟨W.heap.size, 1, none⟩) (by simp only; omega) _) (by omega), by omega⟩, ⟨Kd.R_lower (row_far (row_far HV.out (p := ⟨W.heap.size, 0, none⟩) (by simp only; omega) _) (p := ⟨W.heap.size, 1, none⟩) (by simp only; omega) _) (by omega), by omega⟩, below_set (below_set (below_step HW.out HC.out.base) (Nat.le_refl _)) (Nat.le_refl _)⟩)
  · go_upto_if 27 with (first
      | (go_at_call 45; (with_reducible refine (spec_liSet.sem own s (R.out.rd (by omega)) SB.out).mono ?_); rintro e w4 ⟨rfl, hb⟩; have hc := HC.out.below hb; have hk := HC.out.keepB hb; have nHC := Aside0.mk hc; have nX := Aside0.mk (hk.blk (X.out) hXg (by simp)); have nY := Aside0.mk (hk.blk (Y.out) hYg (by simp)); have nR := Aside0.mk (Own.keep (R.out) hk hRg); have nhS := Nat.le_trans hS hk.1; (try clear hY0 hY1 fY0 fY1); (try clear hX0 hX1 fX0 fX1); (try clear hb); (try clear ho); (try clear hc hk); clear HC X Y R hS; have HC := nHC; clear nHC; have X := nX; clear nX; have Y := nY; clear nY; have R := nR; clear nR; have hS := nhS; clear nhS; (try clear hY0 hY1 fY0 fY1); have hY0 := (blk_cell Y.out 0).trans rfl; have hY1 := (blk_cell Y.out 1).trans rfl; have fY0 := blk_frozen Y.out 0; have fY1 := blk_frozen Y.out 1; (try clear hX0 hX1 fX0 fX1); have hX0 := (blk_cell X.out 0).trans rfl; have hX1 := (blk_cell X.out 1).trans rfl; have fX0 := blk_frozen X.out 0; have fX1 := blk_frozen X.out 1)
      | (go_at_call 54; (with_reducible refine (one_any _ _ HC.out (by omega)).mono ?_); rintro e w5 ⟨b, rfl, hc, hk⟩; have nHC := Aside0.mk hc; have nX := Aside0.mk (hk.blk (X.out) hXg (by simp)); have nY := Aside0.mk (hk.blk (Y.out) hYg (by simp)); have nR := Aside0.mk (Own.keep (R.out) hk hRg); have nhS := Nat.le_trans hS hk.1; (try clear hY0 hY1 fY0 fY1); (try clear hX0 hX1 fX0 fX1); (try clear hb); (try clear ho); (try clear hc hk); clear HC X Y R hS; have HC := nHC; clear nHC; have X := nX; clear nX; have Y := nY; clear nY; have R := nR; clear nR; have hS := nhS; clear nhS; (try clear hY0 hY1 fY0 fY1); have hY0 := (blk_cell Y.out 0).trans rfl; have hY1 := (blk_cell Y.out 1).trans rfl; have fY0 := blk_frozen Y.out 0; have fY1 := blk_frozen Y.out 1; (try clear hX0 hX1 fX0 fX1); have hX0 := (blk_cell X.out 0).trans rfl; have hX1 := (blk_cell X.out 1).trans rfl; have fX0 := blk_frozen X.out 0; have fX1 := blk_frozen X.out 1))
    cases b
    · obtain ⟨hG, hn9, hs⟩ := setOk_of SB.out
      have hG1 := hG.one
      obtain ⟨ad, rfl, hc_⟩ := (R.out.rd (by omega)).cell 0 (Int.le_refl _) (by omega)
      clear hc_
      have HS := Aside0.mk hs
      have HGA := Aside0.mk hG
      clear hs hG
      have hVg : w1.heap.size < w3.heap.size := by omega
      go_upto_region 7 with (go_at_call 50; (with_reducible refine (pick_any _ _ HC.out (by omega)).mono ?_); rintro e w6 ⟨q, rfl, hq0, hq1, hq, hc, hk⟩; have nHC := Aside0.mk hc; have nX := Aside0.mk (hk.blk (X.out) hXg (by simp)); have nY := Aside0.mk (hk.blk (Y.out) hYg (by simp)); have nR := Aside0.mk (Own.keep (R.out) hk hRg); have nhS := Nat.le_trans hS hk.1; (try clear hY0 hY1 fY0 fY1); (try clear hX0 hX1 fX0 fX1); (try clear hb); (try clear ho); (try clear hc hk); clear HC X Y R hS; have HC := nHC; clear nHC; have X := nX; clear nX; have Y := nY; clear nY; have R := nR; clear nR; have hS := nhS; clear nhS; (try clear hY0 hY1 fY0 fY1); have hY0 := (blk_cell Y.out 0).trans rfl; have hY1 := (blk_cell Y.out 1).trans rfl; have fY0 := blk_frozen Y.out 0; have fY1 := blk_frozen Y.out 1; (try clear hX0 hX1 fX0 fX1); have hX0 := (blk_cell X.out 0).trans rfl; have hX1 := (blk_cell X.out 1).trans rfl; have fX0 := blk_frozen X.out 0; have fX1 := blk_frozen X.out 1)
      (try clear hX0 hX1 fX0 fX1)
      (try clear hY0 hY1 fY0 fY1)
      go_loopw [8, 9, 10, 11] (fun v8 v9 v10 v11 wr => ∃ (k : Int) (word : List Int) (now : Int), v10 = .int .i64 k ∧ v9 = .int .i64 now ∧ 0 ≤ k ∧ k ≤ 8 ∧ Aside0 (inSet l.length now = true) ∧ Aside0 ((word.length : Int) + k ≤ 8) ∧ w3.heap.size ≤ wr.heap.size ∧ Aside0 (Cur w1 w1.heap.size (2000 - 10 * k) wr) ∧ Aside0 (wr.heap[W.heap.size]? = some (.cells #[.slice none 0 0, .bool false] 26 (0, 0))) ∧ Aside0 (wr.heap[w2.heap.size]? = some (.cells #[.slice (some ad) l.length c2, .bool own] 26 (0, 0))) ∧ Aside0 (Own wr (w1.alloc (Obj.cells #[Value.slice A l0.length c, Value.int IntKind.i64 0, Value.int IntKind.u64 0] 62)).heap.size w2.heap.size (.slice (some ad) l.length c2) l) ∧ Aside0 (Kd.R (Kd.int .i64) 3 wr w3.heap.size (fun _ => True) v8 word)) (fun _ _ v10 _ _ => (intOf v10).toNat)
      case atStart => exact ⟨q, [], s, rfl, rfl, hq0, by have h := hq.out; omega, HS, ⟨by have h := hq.out; simp; omega⟩, hS, ⟨HC.out.le (by have h := hq.out; omega)⟩, X, Y, R, ⟨Kd.R_nil _ _ _ _ _⟩⟩
      case round =>
        clear HC X Y R hS hq
        obtain ⟨k, word, now, rfl, rfl, hk0, hk1, hnow, hkw, hS, HC, X, Y, R, HV⟩ := hrel
        by_cases hk : 0 < k
        · (try clear hY0 hY1 fY0 fY1); have hY0 := (blk_cell Y.out 0).trans rfl; have hY1 := (blk_cell Y.out 1).trans rfl; have fY0 := blk_frozen Y.out 0; have fY1 := blk_frozen Y.out 1
          go_upto_region 10 with (go_at_call 50; (with_reducible refine (pick_any _ _ HC.out (by omega)).mono ?_); rintro e w7 ⟨t, rfl, ht0, ht1, ht, hc, hk⟩; have ht2 : t < l.length := (by have h := ht.out; omega); obtain ⟨j, rfl⟩ : ∃ j : Nat, t = (j : Int) := ⟨t.toNat, (by omega)⟩; have hj : j < l.length := (by omega); have nHC := Aside0.mk hc; have nX := Aside0.mk (hk.blk (X.out) hXg (by simp)); have nY := Aside0.mk (hk.blk (Y.out) hYg (by simp)); have nR := Aside0.mk (Own.keep (R.out) hk hRg); have nHV := Aside0.mk (row_keep (HV.out) hk hVg); have nhS := Nat.le_trans hS hk.1; (try clear hY0 hY1 fY0 fY1); (try clear hb); (try clear ho); (try clear hc hk); clear HC X Y R HV hS; have HC := nHC; clear nHC; have X := nX; clear nX; have Y := nY; clear nY; have R := nR; clear nR; have HV := nHV; clear nHV; have hS := nhS; clear nhS; (try clear hY0 hY1 fY0 fY1); have hY0 := (blk_cell Y.out 0).trans rfl; have hY1 := (blk_cell Y.out 1).trans rfl; have fY0 := blk_frozen Y.out 0; have fY1 := blk_frozen Y.out 1)
          obtain ⟨bb, hq_⟩ : ∃ r, (bit now (j : Int)) = r := ⟨_, rfl⟩; have EB := Aside0.mk hq_; clear hq_
          have hsum := Aside0.mk (lit_sum HGA.out hnow.out (by omega : 0 ≤ (j : Int)) (by omega))
          have hn0 := (inSet_lt hnow.out).1
          have hn1 := (inSet_lt hnow.out).2.1
          have hp9 := pow512 hn9
          have hn3 : now < 9223372036854775808 := by omega
          have hrd := HGA.out.sets _ (rd_mem l (j : Int) (by omega) (by omega))
          have hr3 := Aside0.mk (show 0 ≤ rd l (j : Int) ∧ rd l (j : Int) < 9223372036854775808 from ⟨hrd.1, by have h := hrd.2; have h2 : ((2 ^ l.length : Nat) : Int) = 2 ^ l.length := (by simp); omega⟩)
          clear hn1 hp9 hrd
          cases bb
          · go_wp2_with (go_at_call 53; (with_reducible refine (spec_grIn.sem now (j : Int) hn0 hn3 (by omega) EB.out).mono ?_); rintro e w8 ⟨nn, rfl, rfl⟩; have hb := HC.out.dnB nn; have hc := HC.out.below hb; have hk := HC.out.keepB hb; have nHC := Aside0.mk hc; have nX := Aside0.mk (hk.blk (X.out) hXg (by simp)); have nY := Aside0.mk (hk.blk (Y.out) hYg (by simp)); have nR := Aside0.mk (Own.keep (R.out) hk hRg); have nHV := Aside0.mk (row_keep (HV.out) hk hVg); have nhS := Nat.le_trans hS hk.1; (try clear hY0 hY1 fY0 fY1); (try clear hb); (try clear ho); (try clear hc hk); clear HC X Y R HV hS; have HC := nHC; clear nHC; have X := nX; clear nX; have Y := nY; clear nY; have R := nR; clear nR; have HV := nHV; clear nHV; have hS := nhS; clear nhS; (try clear hY0 hY1 fY0 fY1); have hY0 := (blk_cell Y.out 0).trans rfl; have hY1 := (blk_cell Y.out 1).trans rfl; have fY0 := blk_frozen Y.out 0; have fY1 := blk_frozen Y.out 1)
            go_roundw
            case rel => exact ⟨k - 1, word, now, rfl, rfl, by omega, by omega, hnow, ⟨by have h := hkw.out; omega⟩, hS, ⟨HC.out.le (by omega)⟩, X, Y, R, HV⟩
            case measure => simp [intOf]; omega
          · go_wp2_with (first
              | (go_at_call 53; (with_reducible refine (spec_grIn.sem now (j : Int) hn0 hn3 (by omega) EB.out).mono ?_); rintro e w8 ⟨nn, rfl, rfl⟩; have hb := HC.out.dnB nn; have hc := HC.out.below hb; have hk := HC.out.keepB hb; have nHC := Aside0.mk hc; have nX := Aside0.mk (hk.blk (X.out) hXg (by simp)); have nY := Aside0.mk (hk.blk (Y.out) hYg (by simp)); have nR := Aside0.mk (Own.keep (R.out) hk hRg); have nHV := Aside0.mk (row_keep (HV.out) hk hVg); have nhS := Nat.le_trans hS hk.1; (try clear hY0 hY1 fY0 fY1); (try clear hb); (try clear ho); (try clear hc hk); clear HC X Y R HV hS; have HC := nHC; clear nHC; have X := nX; clear nX; have Y := nY; clear nY; have R := nR; clear nR; have HV := nHV; clear nHV; have hS := nhS; clear nhS; (try clear hY0 hY1 fY0 fY1); have hY0 := (blk_cell Y.out 0).trans rfl; have hY1 := (blk_cell Y.out 1).trans rfl; have fY0 := blk_frozen Y.out 0; have fY1 := blk_frozen Y.out 1)
              | ((with_reducible refine gate_builtin (b := .append) (xs := #[.tmp 43, .tmp 45]) rfl ?_); at_builtin; refine Kd.R_append (Kd.int .i64) w3.heap.size rfl (.tmp 43) (.tmp 45) 24 3 (.int .i64 0) 8 rfl Try.underlying24 info3 rfl (by decide) (by omega) (u8) word ((j : Int)) [.int .i64 ((j : Int))] (fun _ => True) (fun _ => False) rfl (by first | (go_simp; done) | (go_simp; rfl)) ?aP (fun _ hk => hk.elim) (fun _ _ => trivial) HV.out (Below.refl _ _) ?aS ?aL ?_; (case aP => exact rfl); (case aS => exact hS); (case aL => have h := hkw.out; omega); intro v9 w9 ho hb _ _; have nHC := Aside0.mk (HC.out.low hb (by omega) (by omega)); have nX := Aside0.mk (blk_low X.out hb (by omega)); have nY := Aside0.mk (blk_low Y.out hb (by omega)); have nR := Aside0.mk (R.out.low hb (by omega)); have nHV := Aside0.mk ho; have nhS := Nat.le_trans hS hb.size; (try clear hY0 hY1 fY0 fY1); (try clear hb); (try clear ho); (try clear hc hk); clear HC X Y R HV hS; have HC := nHC; clear nHC; have X := nX; clear nX; have Y := nY; clear nY; have R := nR; clear nR; have HV := nHV; clear nHV; have hS := nhS; clear nhS; (try clear hY0 hY1 fY0 fY1); have hY0 := (blk_cell Y.out 0).trans rfl; have hY1 := (blk_cell Y.out 1).trans rfl; have fY0 := blk_frozen Y.out 0; have fY1 := blk_frozen Y.out 1; have hq := (R.out.rd (by omega)).cellN j hj))
            go_roundw
            case rel => exact ⟨k - 1, _, _, rfl, rfl, by omega, by omega, ⟨by rw [xor_eq hn0 hn3 hr3.out.1 hr3.out.2]; exact hsum.out⟩, ⟨by have h := hkw.out; simp; omega⟩, hS, ⟨HC.out.le (by omega)⟩, X, Y, R, HV⟩
            case measure => simp [intOf]; omega
        · have hkl := hkw.out
          (try clear hY0 hY1 fY0 fY1); have hY0 := (blk_cell Y.out 0).trans rfl; have hY1 := (blk_cell Y.out 1).trans rfl; have fY0 := blk_frozen Y.out 0; have fY1 := blk_frozen Y.out 1
          (try clear hX0 hX1 fX0 fX1); have hX0 := (blk_cell X.out 0).trans rfl; have hX1 := (blk_cell X.out 1).trans rfl; have fX0 := blk_frozen X.out 0; have fX1 := blk_frozen X.out 1
          (go_wp2; refine bodyPost_ret (results_ctt rfl _ _ W.heap.size 26 _ (0, 0) _ rfl (put2_blk X.out _ _) Try.underlying26 rfl (by kernel_rfl)) rfl ?_; exact ⟨_, l, own, _, _, _, rfl, ⟨Kd.R_lower (row_far (row_far R.out (p := ⟨W.heap.size, 0, none⟩) (by simp only; omega) _) (p := ⟨W.heap.size, 1, none⟩) (by simp only; omega) _) (by omega), by omega⟩, ⟨Kd.R_lower (row_far (row_far HV.out (p := ⟨W.heap.size, 0, none⟩) (by simp only; omega) _) (p := ⟨W.heap.size, 1, none⟩) (by simp only; omega) _) (by omega), by omega⟩, below_set (below_set (below_step HW.out HC.out.base) (Nat.le_refl _)) (Nat.le_refl _)⟩)
    · go_upto_region 14 with (fail)
      go_region_held3 (fun w' => w'.cell? ⟨w2.heap.size, 0, none⟩ = some (.slice A2 l.length c2) ∧ w'.cell? ⟨w2.heap.size, 1, none⟩ = some (.bool own)) (first | exact ⟨hY0, hY1⟩ | exact ⟨cell_far2 hY0 (by simp only; omega), cell_far2 hY1 (by simp only; omega)⟩ | exact ⟨cell_far2 (cell_far2 hY0 (by simp only; omega)) (by simp only; omega), cell_far2 (cell_far2 hY1 (by simp only; omega)) (by simp only; omega)⟩ | go_keep) (first | (go_at_call 59; (with_reducible refine (word7_any own _ HC.out.drew (by omega) (by omega)).mono ?_); rintro e w5 ⟨u5, m5, rfl, hv, hm5, hc, hk⟩; have HV := Aside0.mk (Kd.R_lower hv hS); clear hv; have nHC := Aside0.mk hc; have nX := Aside0.mk (hk.blk (blk_drew X.out) hXg (by simp)); have nY := Aside0.mk (hk.blk (blk_drew Y.out) hYg (by simp)); have nR := Aside0.mk (Own.keep (Own.drew R.out) hk hRg); (try clear hY0 hY1 fY0 fY1); (try clear hX0 hX1 fX0 fX1); (try clear hb); (try clear ho); (try clear hc hk); clear HC X Y R; have HC := nHC; clear nHC; have X := nX; clear nX; have Y := nY; clear nY; have R := nR; clear nR; (try clear hY0 hY1 fY0 fY1); have hY0 := (blk_cell Y.out 0).trans rfl; have hY1 := (blk_cell Y.out 1).trans rfl; have fY0 := blk_frozen Y.out 0; have fY1 := blk_frozen Y.out 1; (try clear hX0 hX1 fX0 fX1); have hX0 := (blk_cell X.out 0).trans rfl; have hX1 := (blk_cell X.out 1).trans rfl; have fX0 := blk_frozen X.out 0; have fX1 := blk_frozen X.out 1) | (go_at_call 59; (with_reducible refine (word7_any own _ HC.out (by omega) (by omega)).mono ?_); rintro e w5 ⟨u5, m5, rfl, hv, hm5, hc, hk⟩; have HV := Aside0.mk (Kd.R_lower hv hS); clear hv; have nHC := Aside0.mk hc; have nX := Aside0.mk (hk.blk (X.out) hXg (by simp)); have nY := Aside0.mk (hk.blk (Y.out) hYg (by simp)); have nR := Aside0.mk (Own.keep (R.out) hk hRg); (try clear hY0 hY1 fY0 fY1); (try clear hX0 hX1 fX0 fX1); (try clear hb); (try clear ho); (try clear hc hk); clear HC X Y R; have HC := nHC; clear nHC; have X := nX; clear nX; have Y := nY; clear nY; have R := nR; clear nR; (try clear hY0 hY1 fY0 fY1); have hY0 := (blk_cell Y.out 0).trans rfl; have hY1 := (blk_cell Y.out 1).trans rfl; have fY0 := blk_frozen Y.out 0; have fY1 := blk_frozen Y.out 1; (try clear hX0 hX1 fX0 fX1); have hX0 := (blk_cell X.out 0).trans rfl; have hX1 := (blk_cell X.out 1).trans rfl; have fX0 := blk_frozen X.out 0; have fX1 := blk_frozen X.out 1))
      (go_wp2; refine bodyPost_ret (results_ctt rfl _ _ W.heap.size 26 _ (0, 0) _ rfl (put2_blk X.out _ _) Try.underlying26 rfl (by kernel_rfl)) rfl ?_; exact ⟨_, l, own, _, _, _, rfl, ⟨Kd.R_lower (row_far (row_far R.out (p := ⟨W.heap.size, 0, none⟩) (by simp only; omega) _) (p := ⟨W.heap.size, 1, none⟩) (by simp only; omega) _) (by omega), by omega⟩, ⟨Kd.R_lower (row_far (row_far HV.out (p := ⟨W.heap.size, 0, none⟩) (by simp only; omega) _) (p := ⟨W.heap.size, 1, none⟩) (by simp only; omega) _) (by omega), by omega⟩, below_set (below_set (below_step HW.out HC.out.base) (Nat.le_refl _)) (Nat.le_refl _)⟩)
/-! What the laws' own helpers return. -/
theorem Rd.dn {W : World} {v : Value} {l : List Int} (h : Rd W v l) (n : Nat) : Rd (W.drewN n) v l := h.below (pw_below_drewN (Below.refl _ _) n)
theorem hSame_sem {W : World} {v v2 : Value} {l l2 : List Int} (h : Rd W v l) (h2 : Rd W v2 l2) (b : Bool) (hb : decide (l = l2) = b) : Calls Try.prog 13 #[v, v2] W fun e W' => e = .returned (.bool b) ∧ Below W.heap.size W W' := by
  obtain ⟨A, c, rfl, hc, hC, hl⟩ := h
  obtain ⟨A2, c2, rfl, hc2, hC2, hl2⟩ := h2
  obtain ⟨K, hK⟩ := ev_get (laws_hSame.ev l l2 (by omega))
  exact (laws_hSame.calls K A c l A2 c2 l2 b W hC hc hC2 hc2 ((hK K (Nat.le_refl _)).trans (by rw [hb]))).mono fun _ _ ⟨he, hn⟩ => ⟨he, Drawn0.below hn⟩
theorem hHas_sem {W : World} {v : Value} {l : List Int} (h : Rd W v l) (x : Int) (b : Bool) (hb : l.contains x = b) : Calls Try.prog 21 #[v, .int .i64 x] W fun e W' => e = .returned (.bool b) ∧ Below W.heap.size W W' := by
  obtain ⟨A, c, rfl, hc, hC, hl⟩ := h
  obtain ⟨K, hK⟩ := ev_get (laws_hHas.ev l x (by omega))
  exact (laws_hHas.calls K A c l x b W hC hc ((hK K (Nat.le_refl _)).trans (by rw [hb]))).mono fun _ _ ⟨he, hn⟩ => ⟨he, Drawn0.below hn⟩
end Go.Proofs.Ytjkijnggjjoheaa.Draw
