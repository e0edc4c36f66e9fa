/- What is drawn for FnFormStays: within bounds, whatever it is. -/
import Derived.Test.YtjocpjjimhefjaaGreatPFnFormStaysx
import Derived.Test.YtjocpjjimhefjaaGreatQFnFormStays0
import Derived.Test.YtjocpjjimhefjaaGreatQFnFormStays1
import Derived.Test.YtjocpjjimhefjaaGreatM1
import Derived.Test.YtjocpjjimhefjaaGreatM20
import Derived.WalkKit
import Derived.RowKit3
import Derived.Deep.QuietTactic
import Derived.BigQuiet
import Derived.Deep.DeepCutAuto
import Derived.Deep.CutBlock
import Derived.Deep.LoopGhost
import Derived.Outline
import Derived.Deep.DeepFit
import Derived.Test.YtjocpjjimhefjaaGreatDFnFormStays0
import Derived.Test.YtjocpjjimhefjaaGreatDFnFormStays1
import Derived.Test.YtjocpjjimhefjaaGreatDFnFormStays2
namespace Go.Proofs.YtjocpjjimhefjaaGreat.Draw
open Go.RowKit Go.Proofs.YtjocpjjimhefjaaGreat.PFnFormStays Go.Proofs.YtjocpjjimhefjaaGreatW.PrintWords Go.Proofs.YtjocpjjimhefjaaGreatW.PrintLast Go.Proofs.YtjocpjjimhefjaaGreatW.PrintMore Go.Proofs.YtjocpjjimhefjaaGreatM Go.Proofs.YtjocpjjimhefjaaGreat.Pure
attribute [local go_sem] max2_int min2_int max_two min_two max_three min_three max_four min_four
set_option linter.unusedVariables false
set_option linter.unusedSimpArgs false
variable {w0 w w1 W : World} {g : Nat} {a : Int}
set_option maxRecDepth 100000 in
set_option maxHeartbeats 8000000 in
theorem DrawReflectSet_any {W : World} {v : Value} {l0 : List Int} (h : Rb W v l0) : Calls Tryz.prog 5 #[v] W (DrawGSSP W) := by
  have hu := Tryz.underlying26
  have HW := Aside0.mk (below_alloc (Below.refl W.heap.size W) (.cells #[.slice none 0 0, .bool false] 26))
  have X := Aside0.mk (blk_new W (.cells #[.slice none 0 0, .bool false] 26))
  have H := Aside0.mk (h.below HW.out)
  obtain ⟨A, c, rfl, _⟩ := h
  go_enter Tryz.func5, Tryz.ntmps5
  go_upto_region 1 with (fail)
  generalize W.alloc (.cells #[.slice none 0 0, .bool false] 26) = w1 at *
  have hXl := blk_lt X.out
  go_wp2_with (go_at_call 29; (with_reducible refine (DrawLitPress_any H.out).mono ?_); rintro e w2 ⟨u, l, own, a, b, rfl, hr, hb⟩; obtain ⟨A2, c2, rfl⟩ := hr.slice; have R := Aside0.mk hr; have nX := Aside0.mk (blk_below X.out hb); have nW := Aside0.mk (below_step HW.out hb); clear hr hb X HW; have X := nX; have HW := nW; clear nX nW; (try clear hX0 hX1 fX0 fX1); have hX0 := (blk_cell X.out 0).trans rfl; have hX1 := (blk_cell X.out 1).trans rfl; have fX0 := blk_frozen X.out 0; have fX1 := blk_frozen X.out 1)
  refine bodyPost_ret (results_ctt rfl _ _ W.heap.size 26 _ (0, 0) _ rfl (put2_blk X.out _ _) Tryz.underlying26 rfl (by kernel_rfl)) rfl ?_
  exact ⟨_, l, own, _, _, rfl, ⟨Kd.R_lower (row_far (row_far R.out.1 (p := ⟨W.heap.size, 0, none⟩) hXl _) (p := ⟨W.heap.size, 1, none⟩) hXl _) (Nat.le_of_lt hXl), R.out.2⟩, below_set (below_set HW.out (Nat.le_refl _)) (Nat.le_refl _)⟩
set_option maxRecDepth 100000 in
set_option maxHeartbeats 8000000 in
theorem DrawReflectWord_any {W : World} {v : Value} {l0 : List Int} (h : Rb W v l0) : Calls Tryz.prog 12 #[v] W (DrawGSWP W) := by
  obtain ⟨A, c, rfl, hcl, hr, hx⟩ := h
  have hu := Tryz.underlying26
  have huc := Tryz.underlying56
  have HW := Aside0.mk (below_alloc (Below.refl W.heap.size W) (.cells #[.slice none 0 0, .bool false] 26))
  have X := Aside0.mk (blk_new W (.cells #[.slice none 0 0, .bool false] 26))
  have HR0 := Aside0.mk (Kd.C_alloc hr (.cells #[.slice none 0 0, .bool false] 26))
  have HXX := Aside0.mk hx
  clear hr hx hcl
  go_enter Tryz.func12, Tryz.ntmps12
  go_upto_region 1 with (fail)
  generalize W.alloc (.cells #[.slice none 0 0, .bool false] 26) = w1 at *
  have HC := Aside0.mk (Cur.new w1 A c l0 HR0.out HXX.out)
  have hXg := Nat.ne_of_lt (blk_lt X.out)
  have hXl := blk_lt X.out
  have hRg : w1.heap.size < (w1.alloc (Obj.cells #[Value.slice A l0.length c, Value.int IntKind.i64 0, Value.int IntKind.u64 0] 56)).heap.size := by simp
  go_upto_region 3 with (go_at_call 39; (with_reducible refine (lit_any 8 _ HC.out (by omega) (by omega) (by omega)).mono ?_); rintro e w2 ⟨z, l, own, s, rfl, hr, hll, hc, hk⟩; obtain ⟨A2, c2, rfl⟩ := Kd.R_slice hr; have hXx := blk_alloc X.out (.cells #[.slice A l0.length c, .int .i64 0, .int .u64 0] 56); have nX := Aside0.mk (hk.blk hXx hXg (by simp)); have R := Aside0.mk hr; clear HC X hk hr hXx; have HC := Aside0.mk hc; have X := nX; clear hc nX; (try clear hX0 hX1 fX0 fX1); have hX0 := (blk_cell X.out 0).trans rfl; have hX1 := (blk_cell X.out 1).trans rfl; have fX0 := blk_frozen X.out 0; have fX1 := blk_frozen X.out 1)
  have hY2 := blk_lt X.out
  have hRo := Aside0.mk (Own.of R.out)
  have hYG := HC.out.lt
  clear R
  have R := hRo
  clear hRo
  (try clear hX0 hX1 fX0 fX1)
  have nX := Aside0.mk (blk_alloc X.out (.cells #[.slice A2 l.length c2, .bool own] 26))
  have nR := Aside0.mk (R.out.alloc (.cells #[.slice A2 l.length c2, .bool own] 26))
  have nC := Aside0.mk (HC.out.alloc (.cells #[.slice A2 l.length c2, .bool own] 26))
  have Y := Aside0.mk (blk_new w2 (.cells #[.slice A2 l.length c2, .bool own] 26))
  clear HC X R
  generalize World.alloc w2 (.cells #[.slice A2 l.length c2, .bool own] 26) = w3 at *
  have HC := nC
  have X := nX
  have R := nR
  clear nC nX nR
  have hYg : w2.heap.size ≠ w1.heap.size := Nat.ne_of_gt hYG
  have hYv : w2.heap.size + 1 ≤ w3.heap.size := blk_lt Y.out
  (try clear hY0 hY1 fY0 fY1); have hY0 := (blk_cell Y.out 0).trans rfl; have hY1 := (blk_cell Y.out 1).trans rfl; have fY0 := blk_frozen Y.out 0; have fY1 := blk_frozen Y.out 1
  have hS : w3.heap.size ≤ w3.heap.size := Nat.le_refl _
  go_region_held3 (fun w' => w'.cell? ⟨w2.heap.size, 0, none⟩ = some (.slice A2 l.length c2) ∧ w'.cell? ⟨w2.heap.size, 1, none⟩ = some (.bool own)) (first | exact ⟨hY0, hY1⟩ | exact ⟨cell_far2 hY0 (by simp only; omega), cell_far2 hY1 (by simp only; omega)⟩ | exact ⟨cell_far2 (cell_far2 hY0 (by simp only; omega)) (by simp only; omega), cell_far2 (cell_far2 hY1 (by simp only; omega)) (by simp only; omega)⟩ | go_keep) (first | (go_at_call 40; (with_reducible refine (word7_any own _ HC.out.drew (by omega) (by omega)).mono ?_); rintro e w5 ⟨u5, m5, rfl, hv, hm5, hc, hk⟩; have HV := Aside0.mk (Kd.R_lower hv hS); clear hv; have nHC := Aside0.mk hc; have nX := Aside0.mk (hk.blk (blk_drew X.out) hXg (by simp)); have nY := Aside0.mk (hk.blk (blk_drew Y.out) hYg (by simp)); have nR := Aside0.mk (Own.keep (Own.drew R.out) hk hRg); (try clear hY0 hY1 fY0 fY1); (try clear hX0 hX1 fX0 fX1); (try clear hb); (try clear ho); (try clear hc hk); clear HC X Y R; have HC := nHC; clear nHC; have X := nX; clear nX; have Y := nY; clear nY; have R := nR; clear nR; (try clear hY0 hY1 fY0 fY1); have hY0 := (blk_cell Y.out 0).trans rfl; have hY1 := (blk_cell Y.out 1).trans rfl; have fY0 := blk_frozen Y.out 0; have fY1 := blk_frozen Y.out 1; (try clear hX0 hX1 fX0 fX1); have hX0 := (blk_cell X.out 0).trans rfl; have hX1 := (blk_cell X.out 1).trans rfl; have fX0 := blk_frozen X.out 0; have fX1 := blk_frozen X.out 1) | (go_at_call 40; (with_reducible refine (word7_any own _ HC.out (by omega) (by omega)).mono ?_); rintro e w5 ⟨u5, m5, rfl, hv, hm5, hc, hk⟩; have HV := Aside0.mk (Kd.R_lower hv hS); clear hv; have nHC := Aside0.mk hc; have nX := Aside0.mk (hk.blk (X.out) hXg (by simp)); have nY := Aside0.mk (hk.blk (Y.out) hYg (by simp)); have nR := Aside0.mk (Own.keep (R.out) hk hRg); (try clear hY0 hY1 fY0 fY1); (try clear hX0 hX1 fX0 fX1); (try clear hb); (try clear ho); (try clear hc hk); clear HC X Y R; have HC := nHC; clear nHC; have X := nX; clear nX; have Y := nY; clear nY; have R := nR; clear nR; (try clear hY0 hY1 fY0 fY1); have hY0 := (blk_cell Y.out 0).trans rfl; have hY1 := (blk_cell Y.out 1).trans rfl; have fY0 := blk_frozen Y.out 0; have fY1 := blk_frozen Y.out 1; (try clear hX0 hX1 fX0 fX1); have hX0 := (blk_cell X.out 0).trans rfl; have hX1 := (blk_cell X.out 1).trans rfl; have fX0 := blk_frozen X.out 0; have fX1 := blk_frozen X.out 1))
  (go_wp2; refine bodyPost_ret (results_ctt rfl _ _ W.heap.size 26 _ (0, 0) _ rfl (put2_blk X.out _ _) Tryz.underlying26 rfl (by kernel_rfl)) rfl ?_; exact ⟨_, l, own, _, _, _, rfl, ⟨Kd.R_lower (row_far (row_far R.out (p := ⟨W.heap.size, 0, none⟩) (by simp only; omega) _) (p := ⟨W.heap.size, 1, none⟩) (by simp only; omega) _) (by omega), by omega⟩, ⟨Kd.R_lower (row_far (row_far HV.out (p := ⟨W.heap.size, 0, none⟩) (by simp only; omega) _) (p := ⟨W.heap.size, 1, none⟩) (by simp only; omega) _) (by omega), by omega⟩, below_set (below_set (below_step HW.out HC.out.base) (Nat.le_refl _)) (Nat.le_refl _)⟩)
theorem spec_grOwn.sem {W : World} {v : Value} {l : List Int} (own own2 : Bool) (h : Rd W v l) : Calls Tryz.prog 53 #[.agg #[v, .bool own], .bool own2] W fun e W' => ∃ u, e = .returned (.agg #[u, .bool own2]) ∧ Nw W W' u l ∧ Below W.heap.size W W' := by
  obtain ⟨A, c, rfl, hc, hC, hl⟩ := h
  exact (spec_grOwn.calls A c l own own2 l own2 W hC hc (by unfold spec_grOwn.f; rw [spec_l1Own.eq l (by omega)]; rfl)).mono fun _ _ ⟨u, he, h1, h2⟩ => ⟨u, he, ⟨h1, hl⟩, h2⟩
theorem spec_grEffect.sem {W : World} {v : Value} {l : List Int} (own : Bool) (s : Int) (h : Rd W v l) (hb : setOk l s = true) : Calls Tryz.prog 52 #[.agg #[v, .bool own], .int .i64 s] W fun e W' => ∃ x, e = .returned (.int .i64 x) ∧ Below W.heap.size W W' := by
  obtain ⟨A, c, rfl, hc, hC, hl⟩ := h
  obtain ⟨hG, hn, hs⟩ := setOk_of hb
  obtain ⟨h0, h1, h2⟩ := inSet_lt hs
  have hp := pow_cast l.length
  obtain ⟨K, hK⟩ := ev_get (spec_grEffect.ev l own hG s h0 (by omega))
  exact (spec_grEffect.calls K A c l own s _ W hC hc (hK K (Nat.le_refl _))).mono fun _ _ ⟨he, h1⟩ => ⟨_, he, h1⟩
set_option maxRecDepth 100000 in
set_option maxHeartbeats 8000000 in
theorem DrawFormOfLights_any {W : World} {v : Value} {l0 : List Int} (h : Rb W v l0) : Calls Tryz.prog 23 #[v] W (DrawGSP W) := by
  obtain ⟨A, c, rfl, hcl, hr, hx⟩ := h
  have hu := Tryz.underlying26
  have huc := Tryz.underlying56
  have HW := Aside0.mk (below_alloc (Below.refl W.heap.size W) (.cells #[.slice none 0 0, .bool false] 26))
  have X := Aside0.mk (blk_new W (.cells #[.slice none 0 0, .bool false] 26))
  have HR0 := Aside0.mk (Kd.C_alloc hr (.cells #[.slice none 0 0, .bool false] 26))
  have HXX := Aside0.mk hx
  clear hr hx hcl
  go_enter Tryz.func23, Tryz.ntmps23
  go_upto_region 1 with (fail)
  generalize W.alloc (.cells #[.slice none 0 0, .bool false] 26) = w1 at *
  have HC := Aside0.mk (Cur.new w1 A c l0 HR0.out HXX.out)
  have hXg := Nat.ne_of_lt (blk_lt X.out)
  have hXl := blk_lt X.out
  have hRg : w1.heap.size < (w1.alloc (Obj.cells #[Value.slice A l0.length c, Value.int IntKind.i64 0, Value.int IntKind.u64 0] 56)).heap.size := by simp
  go_upto_region 3 with (go_at_call 39; (with_reducible refine (lit_any 6 _ HC.out (by omega) (by omega) (by omega)).mono ?_); rintro e w2 ⟨z, l, own, s, rfl, hr, hll, hc, hk⟩; obtain ⟨A2, c2, rfl⟩ := Kd.R_slice hr; have hXx := blk_alloc X.out (.cells #[.slice A l0.length c, .int .i64 0, .int .u64 0] 56); have nX := Aside0.mk (hk.blk hXx hXg (by simp)); have R := Aside0.mk hr; clear HC X hk hr hXx; have HC := Aside0.mk hc; have X := nX; clear hc nX; (try clear hX0 hX1 fX0 fX1); have hX0 := (blk_cell X.out 0).trans rfl; have hX1 := (blk_cell X.out 1).trans rfl; have fX0 := blk_frozen X.out 0; have fX1 := blk_frozen X.out 1)
  have hY2 := blk_lt X.out
  have hRo := Aside0.mk (Own.of R.out)
  have hYG := HC.out.lt
  clear R
  have R := hRo
  clear hRo
  (try clear hX0 hX1 fX0 fX1)
  have nX := Aside0.mk (blk_alloc X.out (.cells #[.slice A2 l.length c2, .bool own] 26))
  have nR := Aside0.mk (R.out.alloc (.cells #[.slice A2 l.length c2, .bool own] 26))
  have nC := Aside0.mk (HC.out.alloc (.cells #[.slice A2 l.length c2, .bool own] 26))
  have Y := Aside0.mk (blk_new w2 (.cells #[.slice A2 l.length c2, .bool own] 26))
  clear HC X R
  generalize World.alloc w2 (.cells #[.slice A2 l.length c2, .bool own] 26) = w3 at *
  have HC := nC
  have X := nX
  have R := nR
  clear nC nX nR
  have hYg : w2.heap.size ≠ w1.heap.size := Nat.ne_of_gt hYG
  have hYv : w2.heap.size + 1 ≤ w3.heap.size := blk_lt Y.out
  (try clear hY0 hY1 fY0 fY1); have hY0 := (blk_cell Y.out 0).trans rfl; have hY1 := (blk_cell Y.out 1).trans rfl; have fY0 := blk_frozen Y.out 0; have fY1 := blk_frozen Y.out 1
  obtain ⟨sb, hq_⟩ : ∃ r, (setOk l s) = r := ⟨_, rfl⟩; have SB := Aside0.mk hq_; clear hq_
  cases sb
  · go_upto_region 5 with (go_at_call 30; (with_reducible refine (spec_liSet.sem own s (R.out.rd (by omega)) SB.out).mono ?_); rintro e w4 ⟨rfl, hb⟩; have hc := HC.out.below hb; have hk := HC.out.keepB hb; have nHC := Aside0.mk hc; have nX := Aside0.mk (hk.blk (X.out) hXg (by simp)); have nY := Aside0.mk (hk.blk (Y.out) hYg (by simp)); have nR := Aside0.mk (Own.keep (R.out) hk hRg); (try clear hY0 hY1 fY0 fY1); (try clear hX0 hX1 fX0 fX1); (try clear hb); (try clear ho); (try clear hc hk); clear HC X Y R; have HC := nHC; clear nHC; have X := nX; clear nX; have Y := nY; clear nY; have R := nR; clear nR; (try clear hY0 hY1 fY0 fY1); have hY0 := (blk_cell Y.out 0).trans rfl; have hY1 := (blk_cell Y.out 1).trans rfl; have fY0 := blk_frozen Y.out 0; have fY1 := blk_frozen Y.out 1; (try clear hX0 hX1 fX0 fX1); have hX0 := (blk_cell X.out 0).trans rfl; have hX1 := (blk_cell X.out 1).trans rfl; have fX0 := blk_frozen X.out 0; have fX1 := blk_frozen X.out 1)
    (go_wp2; refine bodyPost_ret (results_ct rfl _ _ W.heap.size 26 _ (0, 0) _ rfl (put2_blk X.out _ _) Tryz.underlying26 rfl (by kernel_rfl)) rfl ?_; exact ⟨_, l, own, _, rfl, ⟨Kd.R_lower (row_far (row_far R.out (p := ⟨W.heap.size, 0, none⟩) (by simp only; omega) _) (p := ⟨W.heap.size, 1, none⟩) (by simp only; omega) _) (by omega), by omega⟩, below_set (below_set (below_step HW.out HC.out.base) (Nat.le_refl _)) (Nat.le_refl _)⟩)
  · go_upto_if 21 with (first
      | (go_at_call 30; (with_reducible refine (spec_liSet.sem own s (R.out.rd (by omega)) SB.out).mono ?_); rintro e w4 ⟨rfl, hb⟩; have hc := HC.out.below hb; have hk := HC.out.keepB hb; have nHC := Aside0.mk hc; have nX := Aside0.mk (hk.blk (X.out) hXg (by simp)); have nY := Aside0.mk (hk.blk (Y.out) hYg (by simp)); have nR := Aside0.mk (Own.keep (R.out) hk hRg); (try clear hY0 hY1 fY0 fY1); (try clear hX0 hX1 fX0 fX1); (try clear hb); (try clear ho); (try clear hc hk); clear HC X Y R; have HC := nHC; clear nHC; have X := nX; clear nX; have Y := nY; clear nY; have R := nR; clear nR; (try clear hY0 hY1 fY0 fY1); have hY0 := (blk_cell Y.out 0).trans rfl; have hY1 := (blk_cell Y.out 1).trans rfl; have fY0 := blk_frozen Y.out 0; have fY1 := blk_frozen Y.out 1; (try clear hX0 hX1 fX0 fX1); have hX0 := (blk_cell X.out 0).trans rfl; have hX1 := (blk_cell X.out 1).trans rfl; have fX0 := blk_frozen X.out 0; have fX1 := blk_frozen X.out 1)
      | (go_at_call 51; (with_reducible refine (one_any _ _ HC.out (by omega)).mono ?_); rintro e w5 ⟨b, rfl, hc, hk⟩; have nHC := Aside0.mk hc; have nX := Aside0.mk (hk.blk (X.out) hXg (by simp)); have nY := Aside0.mk (hk.blk (Y.out) hYg (by simp)); have nR := Aside0.mk (Own.keep (R.out) hk hRg); (try clear hY0 hY1 fY0 fY1); (try clear hX0 hX1 fX0 fX1); (try clear hb); (try clear ho); (try clear hc hk); clear HC X Y R; have HC := nHC; clear nHC; have X := nX; clear nX; have Y := nY; clear nY; have R := nR; clear nR; (try clear hY0 hY1 fY0 fY1); have hY0 := (blk_cell Y.out 0).trans rfl; have hY1 := (blk_cell Y.out 1).trans rfl; have fY0 := blk_frozen Y.out 0; have fY1 := blk_frozen Y.out 1; (try clear hX0 hX1 fX0 fX1); have hX0 := (blk_cell X.out 0).trans rfl; have hX1 := (blk_cell X.out 1).trans rfl; have fX0 := blk_frozen X.out 0; have fX1 := blk_frozen X.out 1))
    cases b
    · go_upto_region 5 with (fail)
      (go_wp2; refine bodyPost_ret (results_ct rfl _ _ W.heap.size 26 _ (0, 0) _ rfl (put2_blk X.out _ _) Tryz.underlying26 rfl (by kernel_rfl)) rfl ?_; exact ⟨_, l, own, _, rfl, ⟨Kd.R_lower (row_far (row_far R.out (p := ⟨W.heap.size, 0, none⟩) (by simp only; omega) _) (p := ⟨W.heap.size, 1, none⟩) (by simp only; omega) _) (by omega), by omega⟩, below_set (below_set (below_step HW.out HC.out.base) (Nat.le_refl _)) (Nat.le_refl _)⟩)
    · go_upto_region 4 with (fail)
      go_region_held3 (fun w' => w'.cell? ⟨w2.heap.size, 0, none⟩ = some (.slice A2 l.length c2) ∧ w'.cell? ⟨w2.heap.size, 1, none⟩ = some (.bool own)) (first | exact ⟨hY0, hY1⟩ | exact ⟨cell_far2 hY0 (by simp only; omega), cell_far2 hY1 (by simp only; omega)⟩ | exact ⟨cell_far2 (cell_far2 hY0 (by simp only; omega)) (by simp only; omega), cell_far2 (cell_far2 hY1 (by simp only; omega)) (by simp only; omega)⟩ | go_keep) (first
        | (go_at_call 53; (with_reducible refine (spec_grOwn.sem own false (R.out.rd (by omega))).mono ?_); rintro e w6 ⟨u6, rfl, hr, hb⟩; obtain ⟨A6, c6, rfl⟩ := hr.slice; have HV := Aside0.mk hr.rd; clear hr; have hc := HC.out.below hb; have hk := HC.out.keepB hb; have nHC := Aside0.mk hc; have nX := Aside0.mk (hk.blk (X.out) hXg (by simp)); have nY := Aside0.mk (hk.blk (Y.out) hYg (by simp)); have nR := Aside0.mk (Own.keep (R.out) hk hRg); (try clear hY0 hY1 fY0 fY1); (try clear hX0 hX1 fX0 fX1); (try clear hb); (try clear ho); (try clear hc hk); clear HC X Y R; have HC := nHC; clear nHC; have X := nX; clear nX; have Y := nY; clear nY; have R := nR; clear nR; (try clear hY0 hY1 fY0 fY1); have hY0 := (blk_cell Y.out 0).trans rfl; have hY1 := (blk_cell Y.out 1).trans rfl; have fY0 := blk_frozen Y.out 0; have fY1 := blk_frozen Y.out 1; (try clear hX0 hX1 fX0 fX1); have hX0 := (blk_cell X.out 0).trans rfl; have hX1 := (blk_cell X.out 1).trans rfl; have fX0 := blk_frozen X.out 0; have fX1 := blk_frozen X.out 1)
        | (go_at_call 53; (with_reducible refine (spec_grOwn.sem own false (R.out.drew.rd (by omega))).mono ?_); rintro e w6 ⟨u6, rfl, hr, hb⟩; obtain ⟨A6, c6, rfl⟩ := hr.slice; have HV := Aside0.mk hr.rd; clear hr; have hb2 := below_step (below_drew1 (Below.refl _ _)) hb; clear hb; have hb := hb2; clear hb2; have hc := HC.out.below hb; have hk := HC.out.keepB hb; have nHC := Aside0.mk hc; have nX := Aside0.mk (hk.blk (X.out) hXg (by simp)); have nY := Aside0.mk (hk.blk (Y.out) hYg (by simp)); have nR := Aside0.mk (Own.keep (R.out) hk hRg); (try clear hY0 hY1 fY0 fY1); (try clear hX0 hX1 fX0 fX1); (try clear hb); (try clear ho); (try clear hc hk); clear HC X Y R; have HC := nHC; clear nHC; have X := nX; clear nX; have Y := nY; clear nY; have R := nR; clear nR; (try clear hY0 hY1 fY0 fY1); have hY0 := (blk_cell Y.out 0).trans rfl; have hY1 := (blk_cell Y.out 1).trans rfl; have fY0 := blk_frozen Y.out 0; have fY1 := blk_frozen Y.out 1; (try clear hX0 hX1 fX0 fX1); have hX0 := (blk_cell X.out 0).trans rfl; have hX1 := (blk_cell X.out 1).trans rfl; have fX0 := blk_frozen X.out 0; have fX1 := blk_frozen X.out 1)
        | (go_at_call 52; (with_reducible refine (spec_grEffect.sem false s HV.out SB.out).mono ?_); rintro e w7 ⟨x7, rfl, hb⟩; clear HV; have hc := HC.out.below hb; have hk := HC.out.keepB hb; have nHC := Aside0.mk hc; have nX := Aside0.mk (hk.blk (X.out) hXg (by simp)); have nY := Aside0.mk (hk.blk (Y.out) hYg (by simp)); have nR := Aside0.mk (Own.keep (R.out) hk hRg); (try clear hY0 hY1 fY0 fY1); (try clear hX0 hX1 fX0 fX1); (try clear hb); (try clear ho); (try clear hc hk); clear HC X Y R; have HC := nHC; clear nHC; have X := nX; clear nX; have Y := nY; clear nY; have R := nR; clear nR; (try clear hY0 hY1 fY0 fY1); have hY0 := (blk_cell Y.out 0).trans rfl; have hY1 := (blk_cell Y.out 1).trans rfl; have fY0 := blk_frozen Y.out 0; have fY1 := blk_frozen Y.out 1; (try clear hX0 hX1 fX0 fX1); have hX0 := (blk_cell X.out 0).trans rfl; have hX1 := (blk_cell X.out 1).trans rfl; have fX0 := blk_frozen X.out 0; have fX1 := blk_frozen X.out 1)
        | (go_at_call 52; (with_reducible refine (spec_grEffect.sem false s (HV.out.below (below_drew1 (Below.refl _ _))) SB.out).mono ?_); rintro e w7 ⟨x7, rfl, hb⟩; clear HV; have hb2 := below_step (below_drew1 (Below.refl _ _)) hb; clear hb; have hb := hb2; clear hb2; have hc := HC.out.below hb; have hk := HC.out.keepB hb; have nHC := Aside0.mk hc; have nX := Aside0.mk (hk.blk (X.out) hXg (by simp)); have nY := Aside0.mk (hk.blk (Y.out) hYg (by simp)); have nR := Aside0.mk (Own.keep (R.out) hk hRg); (try clear hY0 hY1 fY0 fY1); (try clear hX0 hX1 fX0 fX1); (try clear hb); (try clear ho); (try clear hc hk); clear HC X Y R; have HC := nHC; clear nHC; have X := nX; clear nX; have Y := nY; clear nY; have R := nR; clear nR; (try clear hY0 hY1 fY0 fY1); have hY0 := (blk_cell Y.out 0).trans rfl; have hY1 := (blk_cell Y.out 1).trans rfl; have fY0 := blk_frozen Y.out 0; have fY1 := blk_frozen Y.out 1; (try clear hX0 hX1 fX0 fX1); have hX0 := (blk_cell X.out 0).trans rfl; have hX1 := (blk_cell X.out 1).trans rfl; have fX0 := blk_frozen X.out 0; have fX1 := blk_frozen X.out 1))
      (go_wp2; refine bodyPost_ret (results_ct rfl _ _ W.heap.size 26 _ (0, 0) _ rfl (put2_blk X.out _ _) Tryz.underlying26 rfl (by kernel_rfl)) rfl ?_; exact ⟨_, l, own, _, rfl, ⟨Kd.R_lower (row_far (row_far R.out (p := ⟨W.heap.size, 0, none⟩) (by simp only; omega) _) (p := ⟨W.heap.size, 1, none⟩) (by simp only; omega) _) (by omega), by omega⟩, below_set (below_set (below_step HW.out HC.out.base) (Nat.le_refl _)) (Nat.le_refl _)⟩)
theorem hSame_sem {W : World} {v v2 : Value} {l l2 : List Int} (h : Rd W v l) (h2 : Rd W v2 l2) (b : Bool) (hb : decide (l = l2) = b) : Calls Tryz.prog 26 #[v, v2] W fun e W' => e = .returned (.bool b) ∧ Below W.heap.size W W' := by
  obtain ⟨A, c, rfl, hc, hC, hl⟩ := h
  obtain ⟨A2, c2, rfl, hc2, hC2, hl2⟩ := h2
  obtain ⟨K, hK⟩ := ev_get (laws_hSame.ev l l2 (by omega))
  exact (laws_hSame.calls K A c l A2 c2 l2 b W hC hc hC2 hc2 ((hK K (Nat.le_refl _)).trans (by rw [hb]))).mono fun _ _ ⟨he, hn⟩ => ⟨he, Drawn0.below hn⟩
theorem hHas_sem {W : World} {v : Value} {l : List Int} (h : Rd W v l) (x : Int) (b : Bool) (hb : l.contains x = b) : Calls Tryz.prog 27 #[v, .int .i64 x] W fun e W' => e = .returned (.bool b) ∧ Below W.heap.size W W' := by
  obtain ⟨A, c, rfl, hc, hC, hl⟩ := h
  obtain ⟨K, hK⟩ := ev_get (laws_hHas.ev l x (by omega))
  exact (laws_hHas.calls K A c l x b W hC hc ((hK K (Nat.le_refl _)).trans (by rw [hb]))).mono fun _ _ ⟨he, hn⟩ => ⟨he, Drawn0.below hn⟩
end Go.Proofs.YtjocpjjimhefjaaGreat.Draw
