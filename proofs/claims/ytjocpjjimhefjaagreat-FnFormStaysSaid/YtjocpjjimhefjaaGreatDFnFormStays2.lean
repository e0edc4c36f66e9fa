/- What is drawn for FnFormStays: within bounds, whatever it is. -/
import Derived.Test.YtjocpjjimhefjaaGreatPFnFormStaysx
import Derived.Test.YtjocpjjimhefjaaGreatQFnFormStays0
import Derived.Test.YtjocpjjimhefjaaGreatQFnFormStays1
import Derived.Test.YtjocpjjimhefjaaGreatM1
import Derived.Test.YtjocpjjimhefjaaGreatM20
import Derived.WalkKit
import Derived.RowKit3
import Derived.Deep.QuietTactic
import Derived.BigQuiet
import Derived.Deep.DeepCutAuto
import Derived.Deep.CutBlock
import Derived.Deep.LoopGhost
import Derived.Outline
import Derived.Deep.DeepFit
import Derived.Test.YtjocpjjimhefjaaGreatDFnFormStays0
import Derived.Test.YtjocpjjimhefjaaGreatDFnFormStays1
namespace Go.Proofs.YtjocpjjimhefjaaGreat.Draw
open Go.RowKit Go.Proofs.YtjocpjjimhefjaaGreat.PFnFormStays Go.Proofs.YtjocpjjimhefjaaGreatW.PrintWords Go.Proofs.YtjocpjjimhefjaaGreatW.PrintLast Go.Proofs.YtjocpjjimhefjaaGreatW.PrintMore Go.Proofs.YtjocpjjimhefjaaGreatM Go.Proofs.YtjocpjjimhefjaaGreat.Pure
attribute [local go_sem] max2_int min2_int max_two min_two max_three min_three max_four min_four
set_option linter.unusedVariables false
set_option linter.unusedSimpArgs false
variable {w0 w w1 W : World} {g : Nat} {a : Int}
def setOk (l : List Int) (s : Int) : Bool := good l && decide (l.length ≤ 9) && inSet l.length s
theorem setOk_of {l : List Int} {s : Int} (h : setOk l s = true) : GoodG l ∧ l.length ≤ 9 ∧ inSet l.length s = true := by
  simp only [setOk, Bool.and_eq_true, decide_eq_true_eq] at h
  exact ⟨(good_iff l).1 h.1.1, h.1.2, h.2⟩
theorem pow512 {n : Nat} (h : n ≤ 9) : 2 ^ n ≤ 512 := Nat.pow_le_pow_right (n := 2) (by decide) h
theorem spec_liSet.sem {W : World} {v : Value} {l : List Int} (own : Bool) (s : Int) (h : Rd W v l) {b : Bool} (hb : setOk l s = b) : Calls Tryz.prog 30 #[.agg #[v, .bool own], .int .i64 s] W fun e W' => e = .returned (.bool b) ∧ Below W.heap.size W W' := by
  obtain ⟨A, c, rfl, hc, hC, hl⟩ := h
  obtain ⟨K, hK⟩ := ev_get (spec_liSet.ev l own s (by omega))
  exact spec_liSet.calls K A c l own s b W hC hc ((hK K (Nat.le_refl _)).trans (by rw [← hb]; rfl))
theorem impl_LitPress.sem {W : World} {v : Value} {l : List Int} (own : Bool) (s : Int) (i : Int) {x : Int} {ok : Bool} (h : Rd W v l) (hr : litWord l s [i] = (x, ok)) : Calls Tryz.prog 11 #[.agg #[v, .bool own], .int .i64 s, .int .i64 i] W fun e W' => e = .returned (.tuple #[.int .i64 x, .bool ok]) ∧ Below W.heap.size W W' := by
  obtain ⟨A, c, rfl, hc, hC, hl⟩ := h
  obtain ⟨K, hK⟩ := ev_get (impl_LitPress.ev l own s i)
  exact impl_LitPress.calls K A c l own s i x ok W hC hc ((hK K (Nat.le_refl _)).trans (by first | rw [hr] | (rw [← hr]; rfl)))
theorem orbit_small {l : List Int} {s : Int} {b : Bool} (hb : setOk l s = b) : (if b = true then ints (orbitOf l false s.toNat) else []).length ≤ 1048576 := by
  cases b
  · simp
  · have h := orbitOf_length l false s.toNat
    have h2 := pow512 (setOk_of hb).2.1
    simp only [if_true, ints_length]
    omega
theorem impl_ReachOf.sem {W : World} {v : Value} {l : List Int} (own : Bool) (s : Int) {b : Bool} {r : List Int} (h : Rd W v l) (hb : setOk l s = b) (hr : (if b = true then ints (orbitOf l false s.toNat) else []) = r) : Calls Tryz.prog 28 #[.agg #[v, .bool own], .int .i64 s] W fun e W' => ∃ u, e = .returned (.tuple #[u, .bool b]) ∧ Nw W W' u r ∧ Below W.heap.size W W' := by
  obtain ⟨A, c, rfl, hc, hC, hl⟩ := h
  obtain ⟨K, hK⟩ := ev_get (impl_ReachOf.ev l own s)
  have e := hK K (Nat.le_refl _)
  rw [show (good l && decide (l.length ≤ 9) && inSet l.length s) = b from hb] at e
  have e2 : impl_ReachOf.f K l own s = some ((if b = true then ints (orbitOf l false s.toNat) else []), b) := by rw [e]; cases b <;> rfl
  subst hr
  exact (impl_ReachOf.calls K A c l own s _ b W hC hc e2).mono fun _ _ ⟨u, he, h1, h2⟩ => ⟨u, he, ⟨h1, orbit_small hb⟩, h2⟩
theorem impl_ReflectSet.sem {W : World} {v : Value} {l : List Int} (own : Bool) (s : Int) (i : Int) {x : Int} {ok : Bool} (h : Rd W v l) (hr : reflWord l s [i] = (x, ok)) : Calls Tryz.prog 6 #[.agg #[v, .bool own], .int .i64 s, .int .i64 i] W fun e W' => e = .returned (.tuple #[.int .i64 x, .bool ok]) ∧ Below W.heap.size W W' := by
  obtain ⟨A, c, rfl, hc, hC, hl⟩ := h
  obtain ⟨K, hK⟩ := ev_get (impl_ReflectSet.ev l own s i)
  exact impl_ReflectSet.calls K A c l own s i x ok W hC hc ((hK K (Nat.le_refl _)).trans (by first | rw [hr] | (rw [← hr]; rfl)))
theorem spec_ReflectSet.sem {W : World} {v : Value} {l : List Int} (own : Bool) (s : Int) (i : Int) {x : Int} {ok : Bool} (h : Rd W v l) (hr : reflWord l s [i] = (x, ok)) : Calls Tryz.prog 7 #[.agg #[v, .bool own], .int .i64 s, .int .i64 i] W fun e W' => e = .returned (.tuple #[.int .i64 x, .bool ok]) ∧ Below W.heap.size W W' := by
  obtain ⟨A, c, rfl, hc, hC, hl⟩ := h
  obtain ⟨K, hK⟩ := ev_get (spec_ReflectSet.ev l own s i (by omega))
  exact spec_ReflectSet.calls K A c l own s i x ok W hC hc ((hK K (Nat.le_refl _)).trans (by first | rw [hr] | (rw [← hr]; rfl)))
theorem impl_ReflectWord.sem {W : World} {v v2 : Value} {l p : List Int} (own : Bool) (s : Int) {x : Int} {ok : Bool} (h : Rd W v l) (h2 : Rd W v2 p) (hr : reflWord l s p = (x, ok)) : Calls Tryz.prog 13 #[.agg #[v, .bool own], .int .i64 s, v2] W fun e W' => e = .returned (.tuple #[.int .i64 x, .bool ok]) ∧ Below W.heap.size W W' := by
  obtain ⟨A, c, rfl, hc, hC, hl⟩ := h
  obtain ⟨A2, c2, rfl, hc2, hC2, hl2⟩ := h2
  obtain ⟨K, hK⟩ := ev_get (impl_ReflectWord.ev l own s p (by omega))
  exact impl_ReflectWord.calls K A c l own s A2 c2 p x ok W hC hc hC2 hc2 ((hK K (Nat.le_refl _)).trans (by first | rw [hr] | (rw [← hr]; rfl)))
theorem spec_ReflectWord.sem {W : World} {v v2 : Value} {l p : List Int} (own : Bool) (s : Int) {x : Int} {ok : Bool} (h : Rd W v l) (h2 : Rd W v2 p) (hr : reflWord l s p = (x, ok)) : Calls Tryz.prog 14 #[.agg #[v, .bool own], .int .i64 s, v2] W fun e W' => e = .returned (.tuple #[.int .i64 x, .bool ok]) ∧ Below W.heap.size W W' := by
  obtain ⟨A, c, rfl, hc, hC, hl⟩ := h
  obtain ⟨A2, c2, rfl, hc2, hC2, hl2⟩ := h2
  obtain ⟨K, hK⟩ := ev_get (spec_ReflectWord.ev l own s p (by omega) (by omega))
  exact spec_ReflectWord.calls K A c l own s A2 c2 p x ok W hC hc hC2 hc2 ((hK K (Nat.le_refl _)).trans (by first | rw [hr] | (rw [← hr]; rfl)))
theorem impl_FormOf.sem {W : World} {v : Value} {l : List Int} (own : Bool) (s : Int) {x : Int} {ok : Bool} (h : Rd W v l) (hr : formR l s = (x, ok)) : Calls Tryz.prog 8 #[.agg #[v, .bool own], .int .i64 s] W fun e W' => e = .returned (.tuple #[.int .i64 x, .bool ok]) ∧ Below W.heap.size W W' := by
  obtain ⟨A, c, rfl, hc, hC, hl⟩ := h
  obtain ⟨K, hK⟩ := ev_get (impl_FormOf.ev l own s)
  exact impl_FormOf.calls K A c l own s x ok W hC hc ((hK K (Nat.le_refl _)).trans (by first | rw [hr] | (rw [← hr]; rfl)))
theorem spec_FormOf.sem {W : World} {v : Value} {l : List Int} (own : Bool) (s : Int) {x : Int} {ok : Bool} (h : Rd W v l) (hr : formR l s = (x, ok)) : Calls Tryz.prog 19 #[.agg #[v, .bool own], .int .i64 s] W fun e W' => e = .returned (.tuple #[.int .i64 x, .bool ok]) ∧ Below W.heap.size W W' := by
  obtain ⟨A, c, rfl, hc, hC, hl⟩ := h
  obtain ⟨K, hK⟩ := ev_get (spec_FormOf.ev l own s (by omega))
  exact spec_FormOf.calls K A c l own s x ok W hC hc ((hK K (Nat.le_refl _)).trans (by first | rw [hr] | (rw [← hr]; rfl)))
theorem impl_FormOfLights.sem {W : World} {v : Value} {l : List Int} (own : Bool) (s : Int) {x : Int} {ok : Bool} (h : Rd W v l) (hr : lightsR l s = (x, ok)) : Calls Tryz.prog 24 #[.agg #[v, .bool own], .int .i64 s] W fun e W' => e = .returned (.tuple #[.int .i64 x, .bool ok]) ∧ Below W.heap.size W W' := by
  obtain ⟨A, c, rfl, hc, hC, hl⟩ := h
  obtain ⟨K, hK⟩ := ev_get (impl_FormOfLights.ev l own s)
  exact impl_FormOfLights.calls K A c l own s x ok W hC hc ((hK K (Nat.le_refl _)).trans (by first | rw [hr] | (rw [← hr]; rfl)))
theorem spec_FormOfLights.sem {W : World} {v : Value} {l : List Int} (own : Bool) (s : Int) {x : Int} {ok : Bool} (h : Rd W v l) (hr : lightsR l s = (x, ok)) : Calls Tryz.prog 25 #[.agg #[v, .bool own], .int .i64 s] W fun e W' => e = .returned (.tuple #[.int .i64 x, .bool ok]) ∧ Below W.heap.size W W' := by
  obtain ⟨A, c, rfl, hc, hC, hl⟩ := h
  obtain ⟨K, hK⟩ := ev_get (spec_FormOfLights.ev l own s (by omega))
  exact spec_FormOfLights.calls K A c l own s x ok W hC hc ((hK K (Nat.le_refl _)).trans (by first | rw [hr] | (rw [← hr]; rfl)))
theorem impl_EffectOf.sem {W : World} {v : Value} {l : List Int} (own : Bool) (p : Int) {x : Int} {ok : Bool} (h : Rd W v l) (hr : pressAll l own 0 p = (x, ok)) : Calls Tryz.prog 10 #[.agg #[v, .bool own], .int .i64 p] W fun e W' => e = .returned (.tuple #[.int .i64 x, .bool ok]) ∧ Below W.heap.size W W' := by
  obtain ⟨A, c, rfl, hc, hC, hl⟩ := h
  obtain ⟨K, hK⟩ := ev_get (impl_EffectOf.ev l own p)
  exact impl_EffectOf.calls K A c l own p x ok W hC hc ((hK K (Nat.le_refl _)).trans (by first | rw [hr] | (rw [← hr]; rfl)))
theorem orbitR_small {l : List Int} {s : Int} {b : Bool} (hb : setOk l s = b) : (if b = true then ints (orbitOf l true s.toNat) else []).length ≤ 1048576 := by
  cases b
  · simp
  · have h := orbitOf_length l true s.toNat
    have h2 := pow512 (setOk_of hb).2.1
    simp only [if_true, ints_length]
    omega
theorem impl_ReflectOrbit.sem {W : World} {v : Value} {l : List Int} (own : Bool) (s : Int) {b : Bool} {r : List Int} (h : Rd W v l) (hb : setOk l s = b) (hr : (if b = true then ints (orbitOf l true s.toNat) else []) = r) : Calls Tryz.prog 16 #[.agg #[v, .bool own], .int .i64 s] W fun e W' => ∃ u, e = .returned (.tuple #[u, .bool b]) ∧ Nw W W' u r ∧ Below W.heap.size W W' := by
  obtain ⟨A, c, rfl, hc, hC, hl⟩ := h
  obtain ⟨K, hK⟩ := ev_get (impl_ReflectOrbit.ev l own s)
  have e := hK K (Nat.le_refl _)
  rw [show (good l && decide (l.length ≤ 9) && inSet l.length s) = b from hb] at e
  have e2 : impl_ReflectOrbit.f K l own s = some ((if b = true then ints (orbitOf l true s.toNat) else []), b) := by rw [e]; cases b <;> rfl
  subst hr
  exact (impl_ReflectOrbit.calls K A c l own s _ b W hC hc e2).mono fun _ _ ⟨u, he, h1, h2⟩ => ⟨u, he, ⟨h1, orbitR_small hb⟩, h2⟩
theorem spec_ReflectOrbit.sem {W : World} {v : Value} {l : List Int} (own : Bool) (s : Int) {b : Bool} {r : List Int} (h : Rd W v l) (hb : setOk l s = b) (hr : (if b = true then ints (orbitOf l true s.toNat) else []) = r) : Calls Tryz.prog 17 #[.agg #[v, .bool own], .int .i64 s] W fun e W' => ∃ u, e = .returned (.tuple #[u, .bool b]) ∧ Nw W W' u r ∧ Below W.heap.size W W' := by
  obtain ⟨A, c, rfl, hc, hC, hl⟩ := h
  obtain ⟨K, hK⟩ := ev_get (spec_ReflectOrbit.ev l own s (by omega))
  have e := hK K (Nat.le_refl _)
  rw [show (good l && decide (l.length ≤ 9) && inSet l.length s) = b from hb] at e
  have e2 : spec_ReflectOrbit.f K l own s = some ((if b = true then ints (orbitOf l true s.toNat) else []), b) := by rw [e]; cases b <;> rfl
  subst hr
  exact (spec_ReflectOrbit.calls K A c l own s _ b W hC hc e2).mono fun _ _ ⟨u, he, h1, h2⟩ => ⟨u, he, ⟨h1, orbitR_small hb⟩, h2⟩
theorem impl_FormSpread.sem {W : World} {v : Value} {l : List Int} (own : Bool) {z o : Int} {ok : Bool} (h : Rd W v l) (hr : formSpread l = (z, o, ok)) : Calls Tryz.prog 21 #[.agg #[v, .bool own]] W fun e W' => e = .returned (.tuple #[.int .i64 z, .int .i64 o, .bool ok]) ∧ Below W.heap.size W W' := by
  obtain ⟨A, c, rfl, hc, hC, hl⟩ := h
  obtain ⟨K, hK⟩ := ev_get (impl_FormSpread.ev l own)
  exact impl_FormSpread.calls K A c l own z o ok W hC hc ((hK K (Nat.le_refl _)).trans (by rw [hr]))
theorem spec_FormSpread.sem {W : World} {v : Value} {l : List Int} (own : Bool) {z o : Int} {ok : Bool} (h : Rd W v l) (hr : formSpread l = (z, o, ok)) : Calls Tryz.prog 22 #[.agg #[v, .bool own]] W fun e W' => e = .returned (.tuple #[.int .i64 z, .int .i64 o, .bool ok]) ∧ Below W.heap.size W W' := by
  obtain ⟨A, c, rfl, hc, hC, hl⟩ := h
  obtain ⟨K, hK⟩ := ev_get (spec_FormSpread.ev l own (by omega))
  exact spec_FormSpread.calls K A c l own z o ok W hC hc ((hK K (Nat.le_refl _)).trans (by rw [hr]))
theorem impl_isGraph.sem {W : World} {v : Value} {l : List Int} (own : Bool) {b : Bool} (h : Rd W v l) (hr : good l = b) : Calls Tryz.prog 35 #[.agg #[v, .bool own]] W fun e W' => e = .returned (.bool b) ∧ Below W.heap.size W W' := by
  obtain ⟨A, c, rfl, hc, hC, hl⟩ := h
  obtain ⟨K, hK⟩ := ev_get (impl_isGraph.ev l own)
  exact impl_isGraph.calls K A c l own b W hC hc ((hK K (Nat.le_refl _)).trans (by rw [hr]))
def LitP (w0 w : World) (g : Nat) (a n : Int) (e : Ending) (w' : World) : Prop := ∃ (v : Value) (l : List Int) (own : Bool) (s : Int), e = .returned (.tuple #[.agg #[v, .bool own], .int .i64 s]) ∧ Kd.R (Kd.int .i64) 3 w' w.heap.size (fun _ => True) v l ∧ (l.length ≤ 17 ∧ ((l.length : Int) ≤ n ∨ l.length ≤ 3 ∨ 16 ≤ l.length)) ∧ Cur w0 g a w' ∧ KeepBut w w' g none
set_option maxRecDepth 100000 in
set_option maxHeartbeats 8000000 in
theorem lit_any (n : Int) (w : World) (hc : Cur w0 g a w) (ha : a ≤ 144115188075855872) (hn : 1 ≤ n) (hn1 : n ≤ 16) : Calls Tryz.prog 39 #[.pointer (some ⟨g, 0, none⟩), .int .i64 n] w (LitP w0 w g (a + 600) n) := by
  have hu := Tryz.underlying26
  have hgl := hc.lt
  have hXg : w.heap.size ≠ g := by omega
  have hsz := hc.size
  have HC := Aside0.mk (hc.alloc (.cells #[.slice none 0 0, .bool false] 26))
  have HK := Aside0.mk (keep_alloc (KeepBut.refl w g none) (.cells #[.slice none 0 0, .bool false] 26))
  have X := Aside0.mk (blk_new w (.cells #[.slice none 0 0, .bool false] 26))
  clear hc
  go_enter Tryz.func39, Tryz.ntmps39
  go_upto_region 2 with (go_at_call 67; (with_reducible refine (graph_any n _ HC.out (by omega) hn hn1).mono ?_); rintro e w2 ⟨z, l, own, rfl, hr, hll, hc, hk⟩; obtain ⟨A2, c2, rfl⟩ := Kd.R_slice hr; have hzx := blk_lt X.out; have R := Aside0.mk hr; have nK := Aside0.mk (HK.out.trans hk (.inl rfl)); have nX := Aside0.mk (hk.blk X.out hXg (by simp)); have hYG := hc.lt; clear HC X HK hk hr; have HC := Aside0.mk hc; have X := nX; have HK := nK; clear hc nX nK)
  have hRg : g < (w.alloc (.cells #[.slice none 0 0, .bool false] 26)).heap.size := by simp; omega
  have hX2 : w.heap.size < (w.alloc (.cells #[.slice none 0 0, .bool false] 26)).heap.size := by simp
  have hY2 := blk_lt X.out
  have HK2 := Aside0.mk (keep_alloc HK.out (.cells #[.slice A2 l.length c2, .bool own] 26))
  have nY := Aside0.mk (blk_new w2 (.cells #[.slice A2 l.length c2, .bool own] 26)); have nC := Aside0.mk (HC.out.alloc (.cells #[.slice A2 l.length c2, .bool own] 26)); have nX := Aside0.mk (blk_alloc X.out (.cells #[.slice A2 l.length c2, .bool own] 26)); have nR := Aside0.mk (Kd.R_alloc R.out (.cells #[.slice A2 l.length c2, .bool own] 26)); clear HC X R; generalize World.alloc w2 (.cells #[.slice A2 l.length c2, .bool own] 26) = w3 at *; have HC := nC; clear nC; have hYg : w2.heap.size ≠ _ := Nat.ne_of_gt hYG; have Y := nY; clear nY; have X := nX; clear nX; have R := nR; clear nR
  (try clear hY0 hY1 fY0 fY1); have hY0 := (blk_cell Y.out 0).trans rfl; have hY1 := (blk_cell Y.out 1).trans rfl; have fY0 := blk_frozen Y.out 0; have fY1 := blk_frozen Y.out 1
  go_region_held3 (fun w' => w'.cell? ⟨w2.heap.size, 0, none⟩ = some (.slice A2 l.length c2) ∧ w'.cell? ⟨w2.heap.size, 1, none⟩ = some (.bool own)) (first | exact ⟨hY0, hY1⟩ | exact ⟨cell_far2 hY0 (by simp only; omega), cell_far2 hY1 (by simp only; omega)⟩ | exact ⟨cell_far2 (cell_far2 hY0 (by simp only; omega)) (by simp only; omega), cell_far2 (cell_far2 hY1 (by simp only; omega)) (by simp only; omega)⟩ | go_keep) ((go_at_call 68; (with_reducible refine (set_any own _ HC.out.drew (by omega) (by omega)).mono ?_); rintro e w4 ⟨a4, rfl, hc, hk⟩; have nK := Aside0.mk ((keep_drew HK2.out).trans hk (.inl rfl)); clear HK2; have HK2 := nK; clear nK; have nC := Aside0.mk hc; have nX := Aside0.mk (hk.blk (blk_drew X.out) hXg (by simp)); have nY := Aside0.mk (hk.blk (blk_drew Y.out) hYg (by simp)); have nR := Aside0.mk (row_keep (Kd.R_drew R.out) hk hRg); clear hc hk HC X Y R; have HC := nC; clear nC; have X := nX; clear nX; have Y := nY; clear nY; have R := nR; clear nR; (try clear hY0 hY1 fY0 fY1); have hY0 := (blk_cell Y.out 0).trans rfl; have hY1 := (blk_cell Y.out 1).trans rfl; have fY0 := blk_frozen Y.out 0; have fY1 := blk_frozen Y.out 1; (try clear hX0 hX1 fX0 fX1); have hX0 := (blk_cell X.out 0).trans rfl; have hX1 := (blk_cell X.out 1).trans rfl; have fX0 := blk_frozen X.out 0; have fX1 := blk_frozen X.out 1))
  go_wp2
  refine bodyPost_ret (results_ct rfl _ _ w.heap.size 26 _ (0, 0) _ rfl (put2_blk X.out _ _) Tryz.underlying26 rfl (by kernel_rfl)) rfl ?_
  exact ⟨_, l, own, _, rfl, Kd.R_lower (row_far (row_far R.out (p := ⟨w.heap.size, 0, none⟩) hX2 _) (p := ⟨w.heap.size, 1, none⟩) hX2 _) (by simp), hll, (HC.out.le (by omega)).put2 hsz hXg _ _, keep_put2 HK2.out (Nat.le_refl _) _ _⟩
set_option maxRecDepth 100000 in
set_option maxHeartbeats 8000000 in
theorem DrawReachOf_any {W : World} {v : Value} {l0 : List Int} (h : Rb W v l0) : Calls Tryz.prog 44 #[v] W (DrawGSP W) := by
  obtain ⟨A, c, rfl, hcl, hr, hx⟩ := h
  have hu := Tryz.underlying26
  have huc := Tryz.underlying56
  have HW := Aside0.mk (below_alloc (Below.refl W.heap.size W) (.cells #[.slice none 0 0, .bool false] 26))
  have X := Aside0.mk (blk_new W (.cells #[.slice none 0 0, .bool false] 26))
  have HR0 := Aside0.mk (Kd.C_alloc hr (.cells #[.slice none 0 0, .bool false] 26))
  have HXX := Aside0.mk hx
  clear hr hx hcl
  go_enter Tryz.func44, Tryz.ntmps44
  go_upto_region 1 with (fail)
  generalize W.alloc (.cells #[.slice none 0 0, .bool false] 26) = w1 at *
  have HC := Aside0.mk (Cur.new w1 A c l0 HR0.out HXX.out)
  have hXg := Nat.ne_of_lt (blk_lt X.out)
  have hXl := blk_lt X.out
  have hRg : w1.heap.size < (w1.alloc (Obj.cells #[Value.slice A l0.length c, Value.int IntKind.i64 0, Value.int IntKind.u64 0] 56)).heap.size := by simp
  go_wp2_with (go_at_call 39; (with_reducible refine (lit_any 6 _ HC.out (by omega) (by omega) (by omega)).mono ?_); rintro e w2 ⟨z, l, own, s, rfl, hr, hll, hc, hk⟩; obtain ⟨A2, c2, rfl⟩ := Kd.R_slice hr; have hXx := blk_alloc X.out (.cells #[.slice A l0.length c, .int .i64 0, .int .u64 0] 56); have nX := Aside0.mk (hk.blk hXx hXg (by simp)); have R := Aside0.mk hr; clear HC X hk hr hXx; have HC := Aside0.mk hc; have X := nX; clear hc nX; (try clear hX0 hX1 fX0 fX1); have hX0 := (blk_cell X.out 0).trans rfl; have hX1 := (blk_cell X.out 1).trans rfl; have fX0 := blk_frozen X.out 0; have fX1 := blk_frozen X.out 1)
  go_wp2
  refine bodyPost_ret (results_ct rfl _ _ W.heap.size 26 _ (0, 0) _ rfl (put2_blk X.out _ _) Tryz.underlying26 rfl (by kernel_rfl)) rfl ?_
  exact ⟨_, l, own, _, rfl, ⟨Kd.R_lower (row_far (row_far R.out (p := ⟨W.heap.size, 0, none⟩) (by simp only; omega) _) (p := ⟨W.heap.size, 1, none⟩) (by simp only; omega) _) (by omega), by omega⟩, below_set (below_set (below_step HW.out HC.out.base) (Nat.le_refl _)) (Nat.le_refl _)⟩
set_option maxRecDepth 100000 in
set_option maxHeartbeats 8000000 in
theorem DrawLitMoves_any {W : World} {v : Value} {l0 : List Int} (h : Rb W v l0) : Calls Tryz.prog 47 #[v] W (DrawGSP W) := by
  obtain ⟨A, c, rfl, hcl, hr, hx⟩ := h
  have hu := Tryz.underlying26
  have huc := Tryz.underlying56
  have HW := Aside0.mk (below_alloc (Below.refl W.heap.size W) (.cells #[.slice none 0 0, .bool false] 26))
  have X := Aside0.mk (blk_new W (.cells #[.slice none 0 0, .bool false] 26))
  have HR0 := Aside0.mk (Kd.C_alloc hr (.cells #[.slice none 0 0, .bool false] 26))
  have HXX := Aside0.mk hx
  clear hr hx hcl
  go_enter Tryz.func47, Tryz.ntmps47
  go_upto_region 1 with (fail)
  generalize W.alloc (.cells #[.slice none 0 0, .bool false] 26) = w1 at *
  have HC := Aside0.mk (Cur.new w1 A c l0 HR0.out HXX.out)
  have hXg := Nat.ne_of_lt (blk_lt X.out)
  have hXl := blk_lt X.out
  have hRg : w1.heap.size < (w1.alloc (Obj.cells #[Value.slice A l0.length c, Value.int IntKind.i64 0, Value.int IntKind.u64 0] 56)).heap.size := by simp
  go_wp2_with (go_at_call 39; (with_reducible refine (lit_any 9 _ HC.out (by omega) (by omega) (by omega)).mono ?_); rintro e w2 ⟨z, l, own, s, rfl, hr, hll, hc, hk⟩; obtain ⟨A2, c2, rfl⟩ := Kd.R_slice hr; have hXx := blk_alloc X.out (.cells #[.slice A l0.length c, .int .i64 0, .int .u64 0] 56); have nX := Aside0.mk (hk.blk hXx hXg (by simp)); have R := Aside0.mk hr; clear HC X hk hr hXx; have HC := Aside0.mk hc; have X := nX; clear hc nX; (try clear hX0 hX1 fX0 fX1); have hX0 := (blk_cell X.out 0).trans rfl; have hX1 := (blk_cell X.out 1).trans rfl; have fX0 := blk_frozen X.out 0; have fX1 := blk_frozen X.out 1)
  go_wp2
  refine bodyPost_ret (results_ct rfl _ _ W.heap.size 26 _ (0, 0) _ rfl (put2_blk X.out _ _) Tryz.underlying26 rfl (by kernel_rfl)) rfl ?_
  exact ⟨_, l, own, _, rfl, ⟨Kd.R_lower (row_far (row_far R.out (p := ⟨W.heap.size, 0, none⟩) (by simp only; omega) _) (p := ⟨W.heap.size, 1, none⟩) (by simp only; omega) _) (by omega), by omega⟩, below_set (below_set (below_step HW.out HC.out.base) (Nat.le_refl _)) (Nat.le_refl _)⟩
set_option maxRecDepth 100000 in
set_option maxHeartbeats 8000000 in
theorem DrawReflectOrbit_any {W : World} {v : Value} {l0 : List Int} (h : Rb W v l0) : Calls Tryz.prog 15 #[v] W (DrawGSP W) := by
  have hu := Tryz.underlying26
  have HW := Aside0.mk (below_alloc (Below.refl W.heap.size W) (.cells #[.slice none 0 0, .bool false] 26))
  have X := Aside0.mk (blk_new W (.cells #[.slice none 0 0, .bool false] 26))
  have H := Aside0.mk (h.below HW.out)
  obtain ⟨A, c, rfl, _⟩ := h
  go_enter Tryz.func15, Tryz.ntmps15
  go_upto_region 1 with (fail)
  generalize W.alloc (.cells #[.slice none 0 0, .bool false] 26) = w1 at *
  have hXl := blk_lt X.out
  go_wp2_with (go_at_call 44; (with_reducible refine (DrawReachOf_any H.out).mono ?_); rintro e w2 ⟨u, l, own, a, rfl, hr, hb⟩; obtain ⟨A2, c2, rfl⟩ := hr.slice; have R := Aside0.mk hr; have nX := Aside0.mk (blk_below X.out hb); have nW := Aside0.mk (below_step HW.out hb); clear hr hb X HW; have X := nX; have HW := nW; clear nX nW; (try clear hX0 hX1 fX0 fX1); have hX0 := (blk_cell X.out 0).trans rfl; have hX1 := (blk_cell X.out 1).trans rfl; have fX0 := blk_frozen X.out 0; have fX1 := blk_frozen X.out 1)
  refine bodyPost_ret (results_ct rfl _ _ W.heap.size 26 _ (0, 0) _ rfl (put2_blk X.out _ _) Tryz.underlying26 rfl (by kernel_rfl)) rfl ?_
  exact ⟨_, l, own, _, rfl, ⟨Kd.R_lower (row_far (row_far R.out.1 (p := ⟨W.heap.size, 0, none⟩) hXl _) (p := ⟨W.heap.size, 1, none⟩) hXl _) (Nat.le_of_lt hXl), R.out.2⟩, below_set (below_set HW.out (Nat.le_refl _)) (Nat.le_refl _)⟩
set_option maxRecDepth 100000 in
set_option maxHeartbeats 8000000 in
theorem DrawFormOf_any {W : World} {v : Value} {l0 : List Int} (h : Rb W v l0) : Calls Tryz.prog 18 #[v] W (DrawGSP W) := by
  have hu := Tryz.underlying26
  have HW := Aside0.mk (below_alloc (Below.refl W.heap.size W) (.cells #[.slice none 0 0, .bool false] 26))
  have X := Aside0.mk (blk_new W (.cells #[.slice none 0 0, .bool false] 26))
  have H := Aside0.mk (h.below HW.out)
  obtain ⟨A, c, rfl, _⟩ := h
  go_enter Tryz.func18, Tryz.ntmps18
  go_upto_region 1 with (fail)
  generalize W.alloc (.cells #[.slice none 0 0, .bool false] 26) = w1 at *
  have hXl := blk_lt X.out
  go_wp2_with (go_at_call 47; (with_reducible refine (DrawLitMoves_any H.out).mono ?_); rintro e w2 ⟨u, l, own, a, rfl, hr, hb⟩; obtain ⟨A2, c2, rfl⟩ := hr.slice; have R := Aside0.mk hr; have nX := Aside0.mk (blk_below X.out hb); have nW := Aside0.mk (below_step HW.out hb); clear hr hb X HW; have X := nX; have HW := nW; clear nX nW; (try clear hX0 hX1 fX0 fX1); have hX0 := (blk_cell X.out 0).trans rfl; have hX1 := (blk_cell X.out 1).trans rfl; have fX0 := blk_frozen X.out 0; have fX1 := blk_frozen X.out 1)
  refine bodyPost_ret (results_ct rfl _ _ W.heap.size 26 _ (0, 0) _ rfl (put2_blk X.out _ _) Tryz.underlying26 rfl (by kernel_rfl)) rfl ?_
  exact ⟨_, l, own, _, rfl, ⟨Kd.R_lower (row_far (row_far R.out.1 (p := ⟨W.heap.size, 0, none⟩) hXl _) (p := ⟨W.heap.size, 1, none⟩) hXl _) (Nat.le_of_lt hXl), R.out.2⟩, below_set (below_set HW.out (Nat.le_refl _)) (Nat.le_refl _)⟩
set_option maxRecDepth 100000 in
set_option maxHeartbeats 8000000 in
theorem DrawCountOrbits_any {W : World} {v : Value} {l0 : List Int} (h : Rb W v l0) : Calls Tryz.prog 49 #[v] W (DrawGP W) := by
  obtain ⟨A, c, rfl, hcl, hr, hx⟩ := h
  have hu := Tryz.underlying26
  have huc := Tryz.underlying56
  have HW := Aside0.mk (below_alloc (Below.refl W.heap.size W) (.cells #[.slice none 0 0, .bool false] 26))
  have X := Aside0.mk (blk_new W (.cells #[.slice none 0 0, .bool false] 26))
  have HR0 := Aside0.mk (Kd.C_alloc hr (.cells #[.slice none 0 0, .bool false] 26))
  have HXX := Aside0.mk hx
  clear hr hx hcl
  go_enter Tryz.func49, Tryz.ntmps49
  go_upto_region 1 with (fail)
  generalize W.alloc (.cells #[.slice none 0 0, .bool false] 26) = w1 at *
  have HC := Aside0.mk (Cur.new w1 A c l0 HR0.out HXX.out)
  have hXg := Nat.ne_of_lt (blk_lt X.out)
  have hXl := blk_lt X.out
  have hRg : w1.heap.size < (w1.alloc (Obj.cells #[Value.slice A l0.length c, Value.int IntKind.i64 0, Value.int IntKind.u64 0] 56)).heap.size := by simp
  go_upto_region 2 with (fail)
  have nX := Aside0.mk (blk_alloc X.out (.cells #[.slice A l0.length c, .int .i64 0, .int .u64 0] 56))
  clear X
  have X := nX
  clear nX
  generalize World.alloc w1 (.cells #[.slice A l0.length c, .int .i64 0, .int .u64 0] 56) = w1s at *
  go_wp2_with (first
    | (go_at_call 69; refine (among_lit _ (HC.out.alloc _) (by omega) (C_lit _ [_, _, _, _] (by simp)) (by have h := HC.out.lt; omega) rfl (by simp)).mono ?_; rintro e w2 ⟨x, rfl, hx, hc, hk⟩; have hxr : 1 ≤ x ∧ x ≤ 16 := (by have h := hx.out; simp at h; omega); have nX := Aside0.mk (hk.blk (blk_alloc X.out _) hXg (by simp)); have hW2 := Aside0.mk hk.1; clear HC X hk; have HC := Aside0.mk hc; have X := nX; clear hc nX)
    | (go_at_call 67; (with_reducible refine (graph_any _ _ HC.out (by omega) hxr.1 hxr.2).mono ?_); rintro e w3 ⟨z, l, own, rfl, hr, hll, hc, hk⟩; obtain ⟨A2, c2, rfl⟩ := Kd.R_slice hr; have nX := Aside0.mk (hk.blk X.out hXg (by simp)); have R := Aside0.mk hr; have hW3 := blk_lt X.out; clear HC X hk hr; have HC := Aside0.mk hc; have X := nX; clear hc nX; (try clear hX0 hX1 fX0 fX1); have hX0 := (blk_cell X.out 0).trans rfl; have hX1 := (blk_cell X.out 1).trans rfl; have fX0 := blk_frozen X.out 0; have fX1 := blk_frozen X.out 1))
  go_wp2
  refine bodyPost_ret (results_cell_row rfl _ _ W.heap.size 26 _ (0, 0) _ rfl (put2_blk X.out _ _) Tryz.underlying26 rfl (by kernel_rfl)) rfl ?_
  exact ⟨_, l, own, rfl, ⟨Kd.R_lower (row_far (row_far R.out (p := ⟨W.heap.size, 0, none⟩) (by simp only; omega) _) (p := ⟨W.heap.size, 1, none⟩) (by simp only; omega) _) (by omega), by omega⟩, below_set (below_set (below_step HW.out HC.out.base) (Nat.le_refl _)) (Nat.le_refl _)⟩
set_option maxRecDepth 100000 in
set_option maxHeartbeats 8000000 in
theorem DrawFormSpread_any {W : World} {v : Value} {l0 : List Int} (h : Rb W v l0) : Calls Tryz.prog 20 #[v] W (DrawGP W) := by
  have hu := Tryz.underlying26
  have HW := Aside0.mk (below_alloc (Below.refl W.heap.size W) (.cells #[.slice none 0 0, .bool false] 26))
  have X := Aside0.mk (blk_new W (.cells #[.slice none 0 0, .bool false] 26))
  have H := Aside0.mk (h.below HW.out)
  obtain ⟨A, c, rfl, _⟩ := h
  go_enter Tryz.func20, Tryz.ntmps20
  go_upto_region 1 with (fail)
  generalize W.alloc (.cells #[.slice none 0 0, .bool false] 26) = w1 at *
  have hXl := blk_lt X.out
  go_wp2_with (go_at_call 49; (with_reducible refine (DrawCountOrbits_any H.out).mono ?_); rintro e w2 ⟨u, l, own, rfl, hr, hb⟩; obtain ⟨A2, c2, rfl⟩ := hr.slice; have R := Aside0.mk hr; have nX := Aside0.mk (blk_below X.out hb); have nW := Aside0.mk (below_step HW.out hb); clear hr hb X HW; have X := nX; have HW := nW; clear nX nW; (try clear hX0 hX1 fX0 fX1); have hX0 := (blk_cell X.out 0).trans rfl; have hX1 := (blk_cell X.out 1).trans rfl; have fX0 := blk_frozen X.out 0; have fX1 := blk_frozen X.out 1)
  refine bodyPost_ret (results_cell_row rfl _ _ W.heap.size 26 _ (0, 0) _ rfl (put2_blk X.out _ _) Tryz.underlying26 rfl (by kernel_rfl)) rfl ?_
  exact ⟨_, l, own, rfl, ⟨Kd.R_lower (row_far (row_far R.out.1 (p := ⟨W.heap.size, 0, none⟩) hXl _) (p := ⟨W.heap.size, 1, none⟩) hXl _) (Nat.le_of_lt hXl), R.out.2⟩, below_set (below_set HW.out (Nat.le_refl _)) (Nat.le_refl _)⟩
set_option maxRecDepth 100000 in
set_option maxHeartbeats 8000000 in
theorem DrawLitPress_any {W : World} {v : Value} {l0 : List Int} (h : Rb W v l0) : Calls Tryz.prog 29 #[v] W (DrawGSSP W) := by
  obtain ⟨A, c, rfl, hcl, hr, hx⟩ := h
  have hu := Tryz.underlying26
  have huc := Tryz.underlying56
  have HW := Aside0.mk (below_alloc (Below.refl W.heap.size W) (.cells #[.slice none 0 0, .bool false] 26))
  have X := Aside0.mk (blk_new W (.cells #[.slice none 0 0, .bool false] 26))
  have HR0 := Aside0.mk (Kd.C_alloc hr (.cells #[.slice none 0 0, .bool false] 26))
  have HXX := Aside0.mk hx
  clear hr hx hcl
  go_enter Tryz.func29, Tryz.ntmps29
  go_upto_region 1 with (fail)
  generalize W.alloc (.cells #[.slice none 0 0, .bool false] 26) = w1 at *
  have HC := Aside0.mk (Cur.new w1 A c l0 HR0.out HXX.out)
  have hXg := Nat.ne_of_lt (blk_lt X.out)
  have hXl := blk_lt X.out
  have hRg : w1.heap.size < (w1.alloc (Obj.cells #[Value.slice A l0.length c, Value.int IntKind.i64 0, Value.int IntKind.u64 0] 56)).heap.size := by simp
  go_upto_region 3 with (go_at_call 39; (with_reducible refine (lit_any 8 _ HC.out (by omega) (by omega) (by omega)).mono ?_); rintro e w2 ⟨z, l, own, s, rfl, hr, hll, hc, hk⟩; obtain ⟨A2, c2, rfl⟩ := Kd.R_slice hr; have hXx := blk_alloc X.out (.cells #[.slice A l0.length c, .int .i64 0, .int .u64 0] 56); have nX := Aside0.mk (hk.blk hXx hXg (by simp)); have R := Aside0.mk hr; clear HC X hk hr hXx; have HC := Aside0.mk hc; have X := nX; clear hc nX; (try clear hX0 hX1 fX0 fX1); have hX0 := (blk_cell X.out 0).trans rfl; have hX1 := (blk_cell X.out 1).trans rfl; have fX0 := blk_frozen X.out 0; have fX1 := blk_frozen X.out 1)
  have hY2 := blk_lt X.out
  have hRo := Aside0.mk (Own.of R.out)
  have hYG := HC.out.lt
  clear R
  have R := hRo
  clear hRo
  (try clear hX0 hX1 fX0 fX1)
  have nX := Aside0.mk (blk_alloc X.out (.cells #[.slice A2 l.length c2, .bool own] 26))
  have nR := Aside0.mk (R.out.alloc (.cells #[.slice A2 l.length c2, .bool own] 26))
  have nC := Aside0.mk (HC.out.alloc (.cells #[.slice A2 l.length c2, .bool own] 26))
  have Y := Aside0.mk (blk_new w2 (.cells #[.slice A2 l.length c2, .bool own] 26))
  clear HC X R
  generalize World.alloc w2 (.cells #[.slice A2 l.length c2, .bool own] 26) = w3 at *
  have HC := nC
  have X := nX
  have R := nR
  clear nC nX nR
  have hYg : w2.heap.size ≠ w1.heap.size := Nat.ne_of_gt hYG
  have hYv : w2.heap.size + 1 ≤ w3.heap.size := blk_lt Y.out
  (try clear hY0 hY1 fY0 fY1); have hY0 := (blk_cell Y.out 0).trans rfl; have hY1 := (blk_cell Y.out 1).trans rfl; have fY0 := blk_frozen Y.out 0; have fY1 := blk_frozen Y.out 1
  go_region_held3 (fun w' => w'.cell? ⟨w2.heap.size, 0, none⟩ = some (.slice A2 l.length c2) ∧ w'.cell? ⟨w2.heap.size, 1, none⟩ = some (.bool own)) (first | exact ⟨hY0, hY1⟩ | exact ⟨cell_far2 hY0 (by simp only; omega), cell_far2 hY1 (by simp only; omega)⟩ | exact ⟨cell_far2 (cell_far2 hY0 (by simp only; omega)) (by simp only; omega), cell_far2 (cell_far2 hY1 (by simp only; omega)) (by simp only; omega)⟩ | go_keep) (first
    | (go_at_call 57; (with_reducible refine (most_any _ _ w3.drew).mono ?_); rintro e w5 ⟨m, nm, rfl, hm0, hm1, hm, rfl⟩; have hb := HC.out.dnB (1 + nm); have hc := HC.out.below hb; have hk := HC.out.keepB hb; have nHC := Aside0.mk hc; have nX := Aside0.mk (hk.blk (X.out) hXg (by simp)); have nY := Aside0.mk (hk.blk (Y.out) hYg (by simp)); have nR := Aside0.mk (Own.keep (R.out) hk hRg); (try clear hY0 hY1 fY0 fY1); (try clear hX0 hX1 fX0 fX1); (try clear hb); (try clear ho); (try clear hc hk); clear HC X Y R; have HC := nHC; clear nHC; have X := nX; clear nX; have Y := nY; clear nY; have R := nR; clear nR; (try clear hY0 hY1 fY0 fY1); have hY0 := (blk_cell Y.out 0).trans rfl; have hY1 := (blk_cell Y.out 1).trans rfl; have fY0 := blk_frozen Y.out 0; have fY1 := blk_frozen Y.out 1; (try clear hX0 hX1 fX0 fX1); have hX0 := (blk_cell X.out 0).trans rfl; have hX1 := (blk_cell X.out 1).trans rfl; have fX0 := blk_frozen X.out 0; have fX1 := blk_frozen X.out 1)
    | (go_at_call 57; (with_reducible refine (most_any _ _ w4).mono ?_); rintro e w5 ⟨m, nm, rfl, hm0, hm1, hm, rfl⟩; have hb := HC.out.dnB nm; have hc := HC.out.below hb; have hk := HC.out.keepB hb; have nHC := Aside0.mk hc; have nX := Aside0.mk (hk.blk (X.out) hXg (by simp)); have nY := Aside0.mk (hk.blk (Y.out) hYg (by simp)); have nR := Aside0.mk (Own.keep (R.out) hk hRg); (try clear hY0 hY1 fY0 fY1); (try clear hX0 hX1 fX0 fX1); (try clear hb); (try clear ho); (try clear hc hk); clear HC X Y R; have HC := nHC; clear nHC; have X := nX; clear nX; have Y := nY; clear nY; have R := nR; clear nR; (try clear hY0 hY1 fY0 fY1); have hY0 := (blk_cell Y.out 0).trans rfl; have hY1 := (blk_cell Y.out 1).trans rfl; have fY0 := blk_frozen Y.out 0; have fY1 := blk_frozen Y.out 1; (try clear hX0 hX1 fX0 fX1); have hX0 := (blk_cell X.out 0).trans rfl; have hX1 := (blk_cell X.out 1).trans rfl; have fX0 := blk_frozen X.out 0; have fX1 := blk_frozen X.out 1)
    | (go_at_call 56; (with_reducible refine (pick_any _ _ HC.out.drew (by omega)).mono ?_); rintro e w4 ⟨t4, rfl, h40, h41, h4, hc, hk⟩; have nHC := Aside0.mk hc; have nX := Aside0.mk (hk.blk (blk_drew X.out) hXg (by simp)); have nY := Aside0.mk (hk.blk (blk_drew Y.out) hYg (by simp)); have nR := Aside0.mk (Own.keep (Own.drew R.out) hk hRg); (try clear hY0 hY1 fY0 fY1); (try clear hX0 hX1 fX0 fX1); (try clear hb); (try clear ho); (try clear hc hk); clear HC X Y R; have HC := nHC; clear nHC; have X := nX; clear nX; have Y := nY; clear nY; have R := nR; clear nR; (try clear hY0 hY1 fY0 fY1); have hY0 := (blk_cell Y.out 0).trans rfl; have hY1 := (blk_cell Y.out 1).trans rfl; have fY0 := blk_frozen Y.out 0; have fY1 := blk_frozen Y.out 1; (try clear hX0 hX1 fX0 fX1); have hX0 := (blk_cell X.out 0).trans rfl; have hX1 := (blk_cell X.out 1).trans rfl; have fX0 := blk_frozen X.out 0; have fX1 := blk_frozen X.out 1)
    | (go_at_call 56; (with_reducible refine (pick_any _ _ HC.out (by omega)).mono ?_); rintro e w6 ⟨t6, rfl, h60, h61, h6, hc, hk⟩; have nHC := Aside0.mk hc; have nX := Aside0.mk (hk.blk (X.out) hXg (by simp)); have nY := Aside0.mk (hk.blk (Y.out) hYg (by simp)); have nR := Aside0.mk (Own.keep (R.out) hk hRg); (try clear hY0 hY1 fY0 fY1); (try clear hX0 hX1 fX0 fX1); (try clear hb); (try clear ho); (try clear hc hk); clear HC X Y R; have HC := nHC; clear nHC; have X := nX; clear nX; have Y := nY; clear nY; have R := nR; clear nR; (try clear hY0 hY1 fY0 fY1); have hY0 := (blk_cell Y.out 0).trans rfl; have hY1 := (blk_cell Y.out 1).trans rfl; have fY0 := blk_frozen Y.out 0; have fY1 := blk_frozen Y.out 1; (try clear hX0 hX1 fX0 fX1); have hX0 := (blk_cell X.out 0).trans rfl; have hX1 := (blk_cell X.out 1).trans rfl; have fX0 := blk_frozen X.out 0; have fX1 := blk_frozen X.out 1))
  (go_wp2; refine bodyPost_ret (results_ctt rfl _ _ W.heap.size 26 _ (0, 0) _ rfl (put2_blk X.out _ _) Tryz.underlying26 rfl (by kernel_rfl)) rfl ?_; exact ⟨_, l, own, _, _, rfl, ⟨Kd.R_lower (row_far (row_far R.out (p := ⟨W.heap.size, 0, none⟩) (by simp only; omega) _) (p := ⟨W.heap.size, 1, none⟩) (by simp only; omega) _) (by omega), by omega⟩, below_set (below_set (below_step HW.out HC.out.base) (Nat.le_refl _)) (Nat.le_refl _)⟩)
theorem eql_nil (w : World) (t e : TypeId) (a : Option Addr) (n c : Nat) (h : Tryz.prog.underlying t = some (.slice e)) : (binOp .eql t (.slice a n c) (.slice none 0 0)).run Tryz.prog w = .ok (.bool a.isNone) w := by
  have h2 : ∀ d : Nat, (Op.equalIn (d + 1) t (.slice a n c) (.slice none 0 0)).run Tryz.prog w = .ok a.isNone w := fun d => by
    cases a <;> simp [Op.equalIn, run_underlying h]
  simp [binOp, Op.equal, Op.maxDepth, h2 9999]
set_option maxRecDepth 100000 in
set_option maxHeartbeats 4000000 in
theorem Clone_any {W : World} {v : Value} {l : List Int} (h : Rd W v l) (h1 : 0 < l.length) : Calls Tryz.prog 36 #[v] W fun e W' => ∃ u, e = .returned u ∧ Nw W W' u l ∧ Below W.heap.size W W' := by
  obtain ⟨A, c, rfl, hc, hC, hl⟩ := h
  obtain ⟨ad, rfl, had⟩ := Kd.at_int hC 0 (by omega) (by omega)
  clear had
  have q : ∀ (w : World) (a : Option Addr) (n c : Nat), (binOp .eql 24 (.slice a n c) (.slice none 0 0)).run Tryz.prog w = .ok (.bool a.isNone) w := fun w a n c => eql_nil w _ 3 a n c Tryz.underlying24
  have HC := Aside0.mk (Kd.C_below hC (below_alloc (Below.refl _ _) (.cells #[] 3 (0, 0))))
  have HB := Aside0.mk (below_alloc (Below.refl W.heap.size W) (.cells #[] 3 (0, 0)))
  have HO := Aside0.mk (Kd.R_of_own (h1 := fun _ => rfl) (enc := Value.int .i64) (xs := []) (ok := fun _ => True) (World.ownsRow_made (base := W.heap.size) (e := 3) W #[] 0 (Nat.le_refl _) (Nat.zero_le _) rfl) (fun _ _ => trivial))
  clear hC
  go_enter Tryz.func36, Tryz.ntmps36
  go_wp2_with ((with_reducible refine gate_builtin (b := .append) (xs := #[.tmp 5, .tmp 6]) rfl ?_); at_builtin; refine Kd.R_append_row (w0 := W) (Value.int .i64) 0 (h1 := fun _ => rfl) W.heap.size rfl (.tmp 5) (.tmp 6) 24 3 (.int .i64 0) 8 rfl Tryz.underlying24 info3 rfl (by decide) _ [] l (some ad) l.length c (fun _ => True) rfl rfl (fun _ _ => trivial) HO.out HC.out HB.out (by simp) (by simp; omega) ?_; intro v1 w1 ho hb _ _)
  go_ret
  exact ⟨_, rfl, ⟨ho, hl⟩, hb⟩
def WithOwnP (W : World) (l : List Int) (own2 b : Bool) (e : Ending) (W' : World) : Prop := ∃ (u : Value) (own3 : Bool), e = .returned (.tuple #[.agg #[u, .bool own3], .bool b]) ∧ (b = true → own3 = own2 ∧ Nw W W' u l) ∧ Below W.heap.size W W'
set_option maxRecDepth 100000 in
set_option maxHeartbeats 8000000 in
theorem WithOwn_any {W : World} {v : Value} {l : List Int} (own own2 : Bool) {b : Bool} (h : Rd W v l) (hb : good l = b) : Calls Tryz.prog 9 #[.agg #[v, .bool own], .bool own2] W (WithOwnP W l own2 b) := by
  obtain ⟨A, c, rfl, hc, hC, hl⟩ := h
  have hu := Tryz.underlying26
  have R := Aside0.mk (Rd.alloc (Rd.alloc ⟨A, c, rfl, hc, hC, hl⟩ (.cells #[.slice A l.length c, .bool own] 26 (0, 0))) (.cells #[.slice none 0 0, .bool false] 26 (0, 0)))
  have X := Aside0.mk (blk_alloc (blk_new W (.cells #[.slice A l.length c, .bool own] 26 (0, 0))) (.cells #[.slice none 0 0, .bool false] 26 (0, 0)))
  have Y0 := blk_new (W.alloc (.cells #[.slice A l.length c, .bool own] 26 (0, 0))) (.cells #[.slice none 0 0, .bool false] 26 (0, 0))
  rw [show (W.alloc (.cells #[.slice A l.length c, .bool own] 26 (0, 0))).heap.size = W.heap.size + 1 by simp] at Y0
  have Y := Aside0.mk Y0
  clear Y0
  have HB := Aside0.mk (below_alloc (below_alloc (Below.refl W.heap.size W) (.cells #[.slice A l.length c, .bool own] 26 (0, 0))) (.cells #[.slice none 0 0, .bool false] 26 (0, 0)))
  have hG1 : b = true → 0 < l.length := fun e => ((good_iff l).1 (hb.trans e)).one
  clear hC
  go_enter Tryz.func9, Tryz.ntmps9
  go_upto_region 1 with (fail)
  have hgW : W.heap.size ≤ W.heap.size + 1 := by omega
  generalize (W.alloc (.cells #[.slice A l.length c, .bool own] 26 (0, 0))).alloc (.cells #[.slice none 0 0, .bool false] 26 (0, 0)) = w1 at *
  (try clear hX0 hX1 fX0 fX1); have hX0 := (blk_cell X.out 0).trans rfl; have hX1 := (blk_cell X.out 1).trans rfl; have fX0 := blk_frozen X.out 0; have fX1 := blk_frozen X.out 1
  have hbb := Aside0.mk hb
  clear hb
  cases b
  · go_wp2_with (go_at_call 35; (with_reducible refine (impl_isGraph.sem own R.out hbb.out).mono ?_); rintro e w2 ⟨rfl, hb⟩; have nX := Aside0.mk (blk_below X.out hb); have nY := Aside0.mk (blk_below Y.out hb); have nHB := Aside0.mk (below_step HB.out hb); clear X Y HB R hb; have X := nX; have Y := nY; have HB := nHB; clear nX nY nHB; (try clear hX0 hX1 fX0 fX1); have hX0 := (blk_cell X.out 0).trans rfl; have hX1 := (blk_cell X.out 1).trans rfl; have fX0 := blk_frozen X.out 0; have fX1 := blk_frozen X.out 1; (try clear hY0 hY1 fY0 fY1); have hY0 := (blk_cell Y.out 0).trans rfl; have hY1 := (blk_cell Y.out 1).trans rfl; have fY0 := blk_frozen Y.out 0; have fY1 := blk_frozen Y.out 1)
    refine bodyPost_ret (results_ct rfl _ _ (W.heap.size + 1) 26 _ (0, 0) _ rfl (put2_blk Y.out _ _) Tryz.underlying26 rfl (by kernel_rfl)) rfl ?_
    exact ⟨_, _, rfl, fun h => (by cases h), below_set (below_set HB.out hgW) hgW⟩
  · have h1 := hG1 rfl
    clear hG1
    go_wp2_with (first
      | (go_at_call 35; (with_reducible refine (impl_isGraph.sem own R.out hbb.out).mono ?_); rintro e w2 ⟨rfl, hb⟩; have nX := Aside0.mk (blk_below X.out hb); have nY := Aside0.mk (blk_below Y.out hb); have nR := Aside0.mk (R.out.below hb); have nHB := Aside0.mk (below_step HB.out hb); clear X Y HB R hb; have X := nX; have Y := nY; have R := nR; have HB := nHB; clear nX nY nR nHB; (try clear hX0 hX1 fX0 fX1); have hX0 := (blk_cell X.out 0).trans rfl; have hX1 := (blk_cell X.out 1).trans rfl; have fX0 := blk_frozen X.out 0; have fX1 := blk_frozen X.out 1; (try clear hY0 hY1 fY0 fY1); have hY0 := (blk_cell Y.out 0).trans rfl; have hY1 := (blk_cell Y.out 1).trans rfl; have fY0 := blk_frozen Y.out 0; have fY1 := blk_frozen Y.out 1)
      | (go_at_call 36; (with_reducible refine (Clone_any R.out h1).mono ?_); rintro e w3 ⟨u, rfl, hr, hb⟩; obtain ⟨A3, c3, rfl⟩ := hr.slice; have HN := Aside0.mk hr.1; have hgl := blk_lt Y.out; have nY := Aside0.mk (blk_below Y.out hb); have nHB := Aside0.mk (below_step HB.out hb); clear X Y HB R hb hr; have Y := nY; have HB := nHB; clear nY nHB; (try clear hY0 hY1 fY0 fY1); have hY0 := (blk_cell Y.out 0).trans rfl; have hY1 := (blk_cell Y.out 1).trans rfl; have fY0 := blk_frozen Y.out 0; have fY1 := blk_frozen Y.out 1))
    refine bodyPost_ret (results_ct rfl _ _ (W.heap.size + 1) 26 _ (0, 0) _ rfl (put2_blk Y.out _ _) Tryz.underlying26 rfl (by kernel_rfl)) rfl ?_
    exact ⟨_, _, rfl, fun h => ⟨rfl, Kd.R_lower (row_far (row_far HN.out (p := ⟨W.heap.size + 1, 0, none⟩) hgl _) (p := ⟨W.heap.size + 1, 1, none⟩) hgl _) (by omega), hl⟩, below_set (below_set HB.out hgW) hgW⟩
end Go.Proofs.YtjocpjjimhefjaaGreat.Draw
