/- What is drawn for FnLitPresses: within bounds, whatever it is. -/
import Derived.Test.YtjkijnggjjoheaaPFnLitPressesx
import Derived.Test.YtjkijnggjjoheaaQFnLitPresses0
import Derived.Test.YtjkijnggjjoheaaQFnLitPresses1
import Derived.Test.YtjkijnggjjoheaaM1
import Derived.Test.YtjkijnggjjoheaaM18
import Derived.Test.YtjkijnggjjoheaaM19
import Derived.WalkKit
import Derived.RowKit3
import Derived.Deep.QuietTactic
import Derived.BigQuiet
import Derived.Deep.DeepCutAuto
import Derived.Deep.CutBlock
import Derived.Deep.LoopGhost
import Derived.Outline
import Derived.Deep.DeepFit
import Derived.Test.YtjkijnggjjoheaaDFnLitPresses0
import Derived.Test.YtjkijnggjjoheaaDFnLitPresses1
namespace Go.Proofs.Ytjkijnggjjoheaa.Draw
open Go.RowKit Go.Proofs.Ytjkijnggjjoheaa.PFnLitPresses Go.Proofs.YtjkijnggjjoheaaW.PrintWords Go.Proofs.YtjkijnggjjoheaaW.PrintLast Go.Proofs.YtjkijnggjjoheaaW.PrintMore Go.Proofs.YtjkijnggjjoheaaM Go.Proofs.Ytjkijnggjjoheaa.Pure
attribute [local go_sem] max2_int min2_int max_two min_two max_three min_three max_four min_four
set_option linter.unusedVariables false
set_option linter.unusedSimpArgs false
variable {w0 w w1 W : World} {g : Nat} {a : Int}
/-! What lit presses, lit words, ways and their like return. -/
def setOk (l : List Int) (s : Int) : Bool := good l && decide (l.length ≤ 9) && inSet l.length s
theorem setOk_of {l : List Int} {s : Int} (h : setOk l s = true) : GoodG l ∧ l.length ≤ 9 ∧ inSet l.length s = true := by
  simp only [setOk, Bool.and_eq_true, decide_eq_true_eq] at h
  exact ⟨(good_iff l).1 h.1.1, h.1.2, h.2⟩
theorem pow512 {n : Nat} (h : n ≤ 9) : 2 ^ n ≤ 512 := Nat.pow_le_pow_right (n := 2) (by decide) h
theorem spec_liSet.sem {W : World} {v : Value} {l : List Int} (own : Bool) (s : Int) (h : Rd W v l) {b : Bool} (hb : setOk l s = b) : Calls Try.prog 45 #[.agg #[v, .bool own], .int .i64 s] W fun e W' => e = .returned (.bool b) ∧ Below W.heap.size W W' := by
  obtain ⟨A, c, rfl, hc, hC, hl⟩ := h
  obtain ⟨K, hK⟩ := ev_get (spec_liSet.ev l own s (by omega))
  exact spec_liSet.calls K A c l own s b W hC hc ((hK K (Nat.le_refl _)).trans (by rw [← hb]; rfl))
theorem spec_liReach.sem {W : World} {v : Value} {l : List Int} (own : Bool) (s : Int) {r : List Int} (h : Rd W v l) (hb : setOk l s = true) (hr : ints (orbitOf l false s.toNat) = r) : Calls Try.prog 46 #[.agg #[v, .bool own], .int .i64 s, .bool false] W fun e W' => ∃ u, e = .returned u ∧ Nw W W' u r ∧ Below W.heap.size W W' := by
  obtain ⟨A, c, rfl, hc, hC, hl⟩ := h
  obtain ⟨hG, hn, hs⟩ := setOk_of hb
  obtain ⟨hs0, hs1, hs2⟩ := inSet_lt hs
  obtain ⟨K, hK⟩ := ev_get (spec_liReach.ev l own false hG hn s.toNat hs1)
  have hln : r.length ≤ 1048576 := by
    have h := orbitOf_length l false s.toNat
    have h2 := pow512 hn
    rw [← hr, ints_length]
    omega
  have e := hK K (Nat.le_refl _)
  rw [← hs2, hr] at e
  exact (spec_liReach.calls K A c l own s false r W hC hc e).mono fun _ _ ⟨u, he, h1, h2⟩ => ⟨u, he, ⟨h1, hln⟩, h2⟩
theorem spec_grIn.sem {W : World} (x i : Int) (hx : 0 ≤ x) (hx1 : x < 9223372036854775808) (hi : 0 ≤ i) {b : Bool} (hb : bit x i = b) : Calls Try.prog 53 #[.int .i64 x, .int .i64 i] W fun e W' => ∃ n, e = .returned (.bool b) ∧ W' = W.drewN n := by
  refine (spec_grIn.calls x i b W (by rw [spec_grIn.eq x i hx (by simpa using hx1) hi, hb])).mono ?_
  rintro e W' ⟨he, hd⟩
  obtain ⟨n, hn⟩ := hd
  exact ⟨n, he, hn⟩
def wayR (l : List Int) (a g : Int) : List Int × Bool := if (good l && decide (l.length ≤ 9) && inSet l.length a && inSet l.length g) = true then wayOf l a.toNat g.toNat else ([], false)
def movesR (l : List Int) (s : Int) : List Int × Bool := if (good l && decide (l.length ≤ 9) && inSet l.length s) = true then (moves l s 0 l.length, true) else ([], false)
theorem wayR_ok {l : List Int} {a g : Int} {r : List Int} (h : wayR l a g = (r, true)) : setOk l a = true ∧ GoodG l ∧ l.length ≤ 9 ∧ inSet l.length a = true ∧ inSet l.length g = true ∧ wayOf l a.toNat g.toNat = (r, true) := by
  unfold wayR at h
  split at h
  · next e =>
    simp only [Bool.and_eq_true, decide_eq_true_eq] at e
    exact ⟨by simp only [setOk, Bool.and_eq_true, decide_eq_true_eq]; exact e.1, (good_iff l).1 e.1.1.1, e.1.1.2, e.1.2, e.2, h⟩
  · cases h
theorem wayR_len {l : List Int} {a g : Int} {r : List Int} {ok : Bool} (h : wayR l a g = (r, ok)) : r.length ≤ 1048576 := by
  cases ok
  · unfold wayR at h
    split at h
    · unfold wayOf at h
      split at h
      · cases h
      · injection h with h1 h2
        rw [← h1]
        simp
    · injection h with h1 h2
      rw [← h1]
      simp
  · obtain ⟨_, hG, hn, ha, hg, hw⟩ := wayR_ok h
    obtain ⟨v, _, hv, hv2, _⟩ := wayOf_some hG (inSet_lt ha).2.1 (inSet_lt hg).2.1 hw
    have := pow512 hn
    omega
theorem movesR_len {l : List Int} {s : Int} {r : List Int} {ok : Bool} (h : movesR l s = (r, ok)) : r.length ≤ 1048576 := by
  unfold movesR at h
  split at h
  · next e =>
    injection h with h1 h2
    rw [← h1]
    simp only [Bool.and_eq_true, decide_eq_true_eq] at e
    have := moves_length l s l.length 0
    omega
  · injection h with h1 h2
    rw [← h1]
    simp
theorem impl_LitPress.sem {W : World} {v : Value} {l : List Int} (own : Bool) (s : Int) (i : Int) {x : Int} {ok : Bool} (h : Rd W v l) (hr : litWord l s [i] = (x, ok)) : Calls Try.prog 23 #[.agg #[v, .bool own], .int .i64 s, .int .i64 i] W fun e W' => e = .returned (.tuple #[.int .i64 x, .bool ok]) ∧ Below W.heap.size W W' := by
  obtain ⟨A, c, rfl, hc, hC, hl⟩ := h
  obtain ⟨K, hK⟩ := ev_get (impl_LitPress.ev l own s i)
  exact impl_LitPress.calls K A c l own s i x ok W hC hc ((hK K (Nat.le_refl _)).trans (by rw [hr]))

theorem spec_LitPress.sem {W : World} {v : Value} {l : List Int} (own : Bool) (s : Int) (i : Int) {x : Int} {ok : Bool} (h : Rd W v l) (hr : litWord l s [i] = (x, ok)) : Calls Try.prog 24 #[.agg #[v, .bool own], .int .i64 s, .int .i64 i] W fun e W' => e = .returned (.tuple #[.int .i64 x, .bool ok]) ∧ Below W.heap.size W W' := by
  obtain ⟨A, c, rfl, hc, hC, hl⟩ := h
  obtain ⟨K, hK⟩ := ev_get (spec_LitPress.ev l own s i (by omega))
  exact spec_LitPress.calls K A c l own s i x ok W hC hc ((hK K (Nat.le_refl _)).trans (by rw [hr]))

theorem impl_LitWord.sem {W : World} {v v2 : Value} {l p : List Int} (own : Bool) (s : Int) {x : Int} {ok : Bool} (h : Rd W v l) (h2 : Rd W v2 p) (hr : litWord l s p = (x, ok)) : Calls Try.prog 28 #[.agg #[v, .bool own], .int .i64 s, v2] W fun e W' => e = .returned (.tuple #[.int .i64 x, .bool ok]) ∧ Below W.heap.size W W' := by
  obtain ⟨A, c, rfl, hc, hC, hl⟩ := h
  obtain ⟨A2, c2, rfl, hc2, hC2, hl2⟩ := h2
  obtain ⟨K, hK⟩ := ev_get (impl_LitWord.ev l own s p (by omega))
  exact impl_LitWord.calls K A c l own s A2 c2 p x ok W hC hc hC2 hc2 ((hK K (Nat.le_refl _)).trans (by rw [hr]))

theorem spec_LitWord.sem {W : World} {v v2 : Value} {l p : List Int} (own : Bool) (s : Int) {x : Int} {ok : Bool} (h : Rd W v l) (h2 : Rd W v2 p) (hr : litWord l s p = (x, ok)) : Calls Try.prog 30 #[.agg #[v, .bool own], .int .i64 s, v2] W fun e W' => e = .returned (.tuple #[.int .i64 x, .bool ok]) ∧ Below W.heap.size W W' := by
  obtain ⟨A, c, rfl, hc, hC, hl⟩ := h
  obtain ⟨A2, c2, rfl, hc2, hC2, hl2⟩ := h2
  obtain ⟨K, hK⟩ := ev_get (spec_LitWord.ev l own s p (by omega) (by omega))
  exact spec_LitWord.calls K A c l own s A2 c2 p x ok W hC hc hC2 hc2 ((hK K (Nat.le_refl _)).trans (by rw [hr]))

theorem impl_WayTo.sem {W : World} {v : Value} {l : List Int} (own : Bool) (a : Int) (g : Int) {r : List Int} {ok : Bool} (h : Rd W v l) (hr : wayR l a g = (r, ok)) : Calls Try.prog 26 #[.agg #[v, .bool own], .int .i64 a, .int .i64 g] W fun e W' => ∃ u, e = .returned (.tuple #[u, .bool ok]) ∧ Nw W W' u r ∧ Below W.heap.size W W' := by
  obtain ⟨A, c, rfl, hc, hC, hl⟩ := h
  obtain ⟨K, hK⟩ := ev_get (impl_WayTo.ev l own a g)
  have hln : r.length ≤ 1048576 := wayR_len hr
  exact (impl_WayTo.calls K A c l own a g r ok W hC hc ((hK K (Nat.le_refl _)).trans (by rw [← hr]; rfl))).mono fun _ _ ⟨u, he, h1, h2⟩ => ⟨u, he, ⟨h1, hln⟩, h2⟩

theorem spec_WayTo.sem {W : World} {v : Value} {l : List Int} (own : Bool) (a : Int) (g : Int) {r : List Int} {ok : Bool} (h : Rd W v l) (hr : wayR l a g = (r, ok)) : Calls Try.prog 27 #[.agg #[v, .bool own], .int .i64 a, .int .i64 g] W fun e W' => ∃ u, e = .returned (.tuple #[u, .bool ok]) ∧ Nw W W' u r ∧ Below W.heap.size W W' := by
  obtain ⟨A, c, rfl, hc, hC, hl⟩ := h
  obtain ⟨K, hK⟩ := ev_get (spec_WayTo.ev l own a g (by omega))
  have hln : r.length ≤ 1048576 := wayR_len hr
  exact (spec_WayTo.calls K A c l own a g r ok W hC hc ((hK K (Nat.le_refl _)).trans (by rw [← hr]; rfl))).mono fun _ _ ⟨u, he, h1, h2⟩ => ⟨u, he, ⟨h1, hln⟩, h2⟩

theorem impl_LitMoves.sem {W : World} {v : Value} {l : List Int} (own : Bool) (s : Int) {r : List Int} {ok : Bool} (h : Rd W v l) (hr : movesR l s = (r, ok)) : Calls Try.prog 32 #[.agg #[v, .bool own], .int .i64 s] W fun e W' => ∃ u, e = .returned (.tuple #[u, .bool ok]) ∧ Nw W W' u r ∧ Below W.heap.size W W' := by
  obtain ⟨A, c, rfl, hc, hC, hl⟩ := h
  obtain ⟨K, hK⟩ := ev_get (impl_LitMoves.ev l own s)
  have hln : r.length ≤ 1048576 := movesR_len hr
  exact (impl_LitMoves.calls K A c l own s r ok W hC hc ((hK K (Nat.le_refl _)).trans (by rw [← hr]; rfl))).mono fun _ _ ⟨u, he, h1, h2⟩ => ⟨u, he, ⟨h1, hln⟩, h2⟩

theorem spec_LitMoves.sem {W : World} {v : Value} {l : List Int} (own : Bool) (s : Int) {r : List Int} {ok : Bool} (h : Rd W v l) (hr : movesR l s = (r, ok)) : Calls Try.prog 33 #[.agg #[v, .bool own], .int .i64 s] W fun e W' => ∃ u, e = .returned (.tuple #[u, .bool ok]) ∧ Nw W W' u r ∧ Below W.heap.size W W' := by
  obtain ⟨A, c, rfl, hc, hC, hl⟩ := h
  obtain ⟨K, hK⟩ := ev_get (spec_LitMoves.ev l own s (by omega))
  have hln : r.length ≤ 1048576 := movesR_len hr
  exact (spec_LitMoves.calls K A c l own s r ok W hC hc ((hK K (Nat.le_refl _)).trans (by rw [← hr]; rfl))).mono fun _ _ ⟨u, he, h1, h2⟩ => ⟨u, he, ⟨h1, hln⟩, h2⟩

theorem orbit_small {l : List Int} {s : Int} {b : Bool} (hb : setOk l s = b) : (if b = true then ints (orbitOf l false s.toNat) else []).length ≤ 1048576 := by
  cases b
  · simp
  · have h := orbitOf_length l false s.toNat
    have h2 := pow512 (setOk_of hb).2.1
    simp only [if_true, ints_length]
    omega
theorem impl_ReachOf.sem {W : World} {v : Value} {l : List Int} (own : Bool) (s : Int) {b : Bool} {r : List Int} (h : Rd W v l) (hb : setOk l s = b) (hr : (if b = true then ints (orbitOf l false s.toNat) else []) = r) : Calls Try.prog 18 #[.agg #[v, .bool own], .int .i64 s] W fun e W' => ∃ u, e = .returned (.tuple #[u, .bool b]) ∧ Nw W W' u r ∧ Below W.heap.size W W' := by
  obtain ⟨A, c, rfl, hc, hC, hl⟩ := h
  obtain ⟨K, hK⟩ := ev_get (impl_ReachOf.ev l own s)
  have e := hK K (Nat.le_refl _)
  rw [show (good l && decide (l.length ≤ 9) && inSet l.length s) = b from hb] at e
  have e2 : impl_ReachOf.f K l own s = some ((if b = true then ints (orbitOf l false s.toNat) else []), b) := by rw [e]; cases b <;> rfl
  subst hr
  exact (impl_ReachOf.calls K A c l own s _ b W hC hc e2).mono fun _ _ ⟨u, he, h1, h2⟩ => ⟨u, he, ⟨h1, orbit_small hb⟩, h2⟩


/-! Draws of lit buttons. -/
def LitP (w0 w : World) (g : Nat) (a n : Int) (e : Ending) (w' : World) : Prop := ∃ (v : Value) (l : List Int) (own : Bool) (s : Int), e = .returned (.tuple #[.agg #[v, .bool own], .int .i64 s]) ∧ Kd.R (Kd.int .i64) 3 w' w.heap.size (fun _ => True) v l ∧ (l.length ≤ 17 ∧ ((l.length : Int) ≤ n ∨ l.length ≤ 3 ∨ 16 ≤ l.length)) ∧ Cur w0 g a w' ∧ KeepBut w w' g none
set_option maxRecDepth 100000 in
set_option maxHeartbeats 8000000 in
theorem lit_any (n : Int) (w : World) (hc : Cur w0 g a w) (ha : a ≤ 144115188075855872) (hn : 1 ≤ n) (hn1 : n ≤ 16) : Calls Try.prog 49 #[.pointer (some ⟨g, 0, none⟩), .int .i64 n] w (LitP w0 w g (a + 600) n) := by
  have hu := Try.underlying26
  have hgl := hc.lt
  have hXg : w.heap.size ≠ g := by omega
  have hsz := hc.size
  have HC := Aside0.mk (hc.alloc (.cells #[.slice none 0 0, .bool false] 26))
  have HK := Aside0.mk (keep_alloc (KeepBut.refl w g none) (.cells #[.slice none 0 0, .bool false] 26))
  have X := Aside0.mk (blk_new w (.cells #[.slice none 0 0, .bool false] 26))
  clear hc
  go_enter Try.func49, Try.ntmps49
  go_upto_region 2 with (go_at_call 61; (with_reducible refine (graph_any n _ HC.out (by omega) hn hn1).mono ?_); rintro e w2 ⟨z, l, own, rfl, hr, hll, hc, hk⟩; obtain ⟨A2, c2, rfl⟩ := Kd.R_slice hr; have hzx := blk_lt X.out; have R := Aside0.mk hr; have nK := Aside0.mk (HK.out.trans hk (.inl rfl)); have nX := Aside0.mk (hk.blk X.out hXg (by simp)); have hYG := hc.lt; clear HC X HK hk hr; have HC := Aside0.mk hc; have X := nX; have HK := nK; clear hc nX nK)
  have hRg : g < (w.alloc (.cells #[.slice none 0 0, .bool false] 26)).heap.size := by simp; omega
  have hX2 : w.heap.size < (w.alloc (.cells #[.slice none 0 0, .bool false] 26)).heap.size := by simp
  have hY2 := blk_lt X.out
  have HK2 := Aside0.mk (keep_alloc HK.out (.cells #[.slice A2 l.length c2, .bool own] 26))
  have nY := Aside0.mk (blk_new w2 (.cells #[.slice A2 l.length c2, .bool own] 26)); have nC := Aside0.mk (HC.out.alloc (.cells #[.slice A2 l.length c2, .bool own] 26)); have nX := Aside0.mk (blk_alloc X.out (.cells #[.slice A2 l.length c2, .bool own] 26)); have nR := Aside0.mk (Kd.R_alloc R.out (.cells #[.slice A2 l.length c2, .bool own] 26)); clear HC X R; generalize World.alloc w2 (.cells #[.slice A2 l.length c2, .bool own] 26) = w3 at *; have HC := nC; clear nC; have hYg : w2.heap.size ≠ _ := Nat.ne_of_gt hYG; have Y := nY; clear nY; have X := nX; clear nX; have R := nR; clear nR
  (try clear hY0 hY1 fY0 fY1); have hY0 := (blk_cell Y.out 0).trans rfl; have hY1 := (blk_cell Y.out 1).trans rfl; have fY0 := blk_frozen Y.out 0; have fY1 := blk_frozen Y.out 1
  go_region_held3 (fun w' => w'.cell? ⟨w2.heap.size, 0, none⟩ = some (.slice A2 l.length c2) ∧ w'.cell? ⟨w2.heap.size, 1, none⟩ = some (.bool own)) (first | exact ⟨hY0, hY1⟩ | exact ⟨cell_far2 hY0 (by simp only; omega), cell_far2 hY1 (by simp only; omega)⟩ | exact ⟨cell_far2 (cell_far2 hY0 (by simp only; omega)) (by simp only; omega), cell_far2 (cell_far2 hY1 (by simp only; omega)) (by simp only; omega)⟩ | go_keep) ((go_at_call 55; (with_reducible refine (set_any own _ HC.out.drew (by omega) (by omega)).mono ?_); rintro e w4 ⟨a4, rfl, hc, hk⟩; have nK := Aside0.mk ((keep_drew HK2.out).trans hk (.inl rfl)); clear HK2; have HK2 := nK; clear nK; have nC := Aside0.mk hc; have nX := Aside0.mk (hk.blk (blk_drew X.out) hXg (by simp)); have nY := Aside0.mk (hk.blk (blk_drew Y.out) hYg (by simp)); have nR := Aside0.mk (row_keep (Kd.R_drew R.out) hk hRg); clear hc hk HC X Y R; have HC := nC; clear nC; have X := nX; clear nX; have Y := nY; clear nY; have R := nR; clear nR; (try clear hY0 hY1 fY0 fY1); have hY0 := (blk_cell Y.out 0).trans rfl; have hY1 := (blk_cell Y.out 1).trans rfl; have fY0 := blk_frozen Y.out 0; have fY1 := blk_frozen Y.out 1; (try clear hX0 hX1 fX0 fX1); have hX0 := (blk_cell X.out 0).trans rfl; have hX1 := (blk_cell X.out 1).trans rfl; have fX0 := blk_frozen X.out 0; have fX1 := blk_frozen X.out 1))
  go_wp2
  refine bodyPost_ret (results_ct rfl _ _ w.heap.size 26 _ (0, 0) _ rfl (put2_blk X.out _ _) Try.underlying26 rfl (by kernel_rfl)) rfl ?_
  exact ⟨_, l, own, _, rfl, Kd.R_lower (row_far (row_far R.out (p := ⟨w.heap.size, 0, none⟩) hX2 _) (p := ⟨w.heap.size, 1, none⟩) hX2 _) (by simp), hll, (HC.out.le (by omega)).put2 hsz hXg _ _, keep_put2 HK2.out (Nat.le_refl _) _ _⟩
set_option maxRecDepth 100000 in
set_option maxHeartbeats 8000000 in
theorem DrawReachOf_any {W : World} {v : Value} {l0 : List Int} (h : Rb W v l0) : Calls Try.prog 41 #[v] W (DrawGSP W) := by
  obtain ⟨A, c, rfl, hcl, hr, hx⟩ := h
  have hu := Try.underlying26
  have huc := Try.underlying62
  have HW := Aside0.mk (below_alloc (Below.refl W.heap.size W) (.cells #[.slice none 0 0, .bool false] 26))
  have X := Aside0.mk (blk_new W (.cells #[.slice none 0 0, .bool false] 26))
  have HR0 := Aside0.mk (Kd.C_alloc hr (.cells #[.slice none 0 0, .bool false] 26))
  have HXX := Aside0.mk hx
  clear hr hx hcl
  go_enter Try.func41, Try.ntmps41
  go_upto_region 1 with (fail)
  generalize W.alloc (.cells #[.slice none 0 0, .bool false] 26) = w1 at *
  have HC := Aside0.mk (Cur.new w1 A c l0 HR0.out HXX.out)
  have hXg := Nat.ne_of_lt (blk_lt X.out)
  have hXl := blk_lt X.out
  have hRg : w1.heap.size < (w1.alloc (Obj.cells #[Value.slice A l0.length c, Value.int IntKind.i64 0, Value.int IntKind.u64 0] 62)).heap.size := by simp
  go_wp2_with (go_at_call 49; (with_reducible refine (lit_any 6 _ HC.out (by omega) (by omega) (by omega)).mono ?_); rintro e w2 ⟨z, l, own, s, rfl, hr, hll, hc, hk⟩; obtain ⟨A2, c2, rfl⟩ := Kd.R_slice hr; have hXx := blk_alloc X.out (.cells #[.slice A l0.length c, .int .i64 0, .int .u64 0] 62); have nX := Aside0.mk (hk.blk hXx hXg (by simp)); have R := Aside0.mk hr; clear HC X hk hr hXx; have HC := Aside0.mk hc; have X := nX; clear hc nX; (try clear hX0 hX1 fX0 fX1); have hX0 := (blk_cell X.out 0).trans rfl; have hX1 := (blk_cell X.out 1).trans rfl; have fX0 := blk_frozen X.out 0; have fX1 := blk_frozen X.out 1)
  go_wp2
  refine bodyPost_ret (results_ct rfl _ _ W.heap.size 26 _ (0, 0) _ rfl (put2_blk X.out _ _) Try.underlying26 rfl (by kernel_rfl)) rfl ?_
  exact ⟨_, l, own, _, rfl, ⟨Kd.R_lower (row_far (row_far R.out (p := ⟨W.heap.size, 0, none⟩) (by simp only; omega) _) (p := ⟨W.heap.size, 1, none⟩) (by simp only; omega) _) (by omega), by omega⟩, below_set (below_set (below_step HW.out HC.out.base) (Nat.le_refl _)) (Nat.le_refl _)⟩
set_option maxRecDepth 100000 in
set_option maxHeartbeats 8000000 in
theorem DrawLitMoves_any {W : World} {v : Value} {l0 : List Int} (h : Rb W v l0) : Calls Try.prog 31 #[v] W (DrawGSP W) := by
  obtain ⟨A, c, rfl, hcl, hr, hx⟩ := h
  have hu := Try.underlying26
  have huc := Try.underlying62
  have HW := Aside0.mk (below_alloc (Below.refl W.heap.size W) (.cells #[.slice none 0 0, .bool false] 26))
  have X := Aside0.mk (blk_new W (.cells #[.slice none 0 0, .bool false] 26))
  have HR0 := Aside0.mk (Kd.C_alloc hr (.cells #[.slice none 0 0, .bool false] 26))
  have HXX := Aside0.mk hx
  clear hr hx hcl
  go_enter Try.func31, Try.ntmps31
  go_upto_region 1 with (fail)
  generalize W.alloc (.cells #[.slice none 0 0, .bool false] 26) = w1 at *
  have HC := Aside0.mk (Cur.new w1 A c l0 HR0.out HXX.out)
  have hXg := Nat.ne_of_lt (blk_lt X.out)
  have hXl := blk_lt X.out
  have hRg : w1.heap.size < (w1.alloc (Obj.cells #[Value.slice A l0.length c, Value.int IntKind.i64 0, Value.int IntKind.u64 0] 62)).heap.size := by simp
  go_wp2_with (go_at_call 49; (with_reducible refine (lit_any 9 _ HC.out (by omega) (by omega) (by omega)).mono ?_); rintro e w2 ⟨z, l, own, s, rfl, hr, hll, hc, hk⟩; obtain ⟨A2, c2, rfl⟩ := Kd.R_slice hr; have hXx := blk_alloc X.out (.cells #[.slice A l0.length c, .int .i64 0, .int .u64 0] 62); have nX := Aside0.mk (hk.blk hXx hXg (by simp)); have R := Aside0.mk hr; clear HC X hk hr hXx; have HC := Aside0.mk hc; have X := nX; clear hc nX; (try clear hX0 hX1 fX0 fX1); have hX0 := (blk_cell X.out 0).trans rfl; have hX1 := (blk_cell X.out 1).trans rfl; have fX0 := blk_frozen X.out 0; have fX1 := blk_frozen X.out 1)
  go_wp2
  refine bodyPost_ret (results_ct rfl _ _ W.heap.size 26 _ (0, 0) _ rfl (put2_blk X.out _ _) Try.underlying26 rfl (by kernel_rfl)) rfl ?_
  exact ⟨_, l, own, _, rfl, ⟨Kd.R_lower (row_far (row_far R.out (p := ⟨W.heap.size, 0, none⟩) (by simp only; omega) _) (p := ⟨W.heap.size, 1, none⟩) (by simp only; omega) _) (by omega), by omega⟩, below_set (below_set (below_step HW.out HC.out.base) (Nat.le_refl _)) (Nat.le_refl _)⟩
set_option maxRecDepth 100000 in
set_option maxHeartbeats 8000000 in
theorem DrawFewestLit_any {W : World} {v : Value} {l0 : List Int} (h : Rb W v l0) : Calls Try.prog 15 #[v] W (DrawGSP W) := by
  have hu := Try.underlying26
  have HW := Aside0.mk (below_alloc (Below.refl W.heap.size W) (.cells #[.slice none 0 0, .bool false] 26))
  have X := Aside0.mk (blk_new W (.cells #[.slice none 0 0, .bool false] 26))
  have H := Aside0.mk (h.below HW.out)
  obtain ⟨A, c, rfl, _⟩ := h
  go_enter Try.func15, Try.ntmps15
  go_upto_region 1 with (fail)
  generalize W.alloc (.cells #[.slice none 0 0, .bool false] 26) = w1 at *
  have hXl := blk_lt X.out
  go_wp2_with (go_at_call 41; (with_reducible refine (DrawReachOf_any H.out).mono ?_); rintro e w2 ⟨u, l, own, a, rfl, hr, hb⟩; obtain ⟨A2, c2, rfl⟩ := hr.slice; have R := Aside0.mk hr; have nX := Aside0.mk (blk_below X.out hb); have nW := Aside0.mk (below_step HW.out hb); clear hr hb X HW; have X := nX; have HW := nW; clear nX nW; (try clear hX0 hX1 fX0 fX1); have hX0 := (blk_cell X.out 0).trans rfl; have hX1 := (blk_cell X.out 1).trans rfl; have fX0 := blk_frozen X.out 0; have fX1 := blk_frozen X.out 1)
  refine bodyPost_ret (results_ct rfl _ _ W.heap.size 26 _ (0, 0) _ rfl (put2_blk X.out _ _) Try.underlying26 rfl (by kernel_rfl)) rfl ?_
  exact ⟨_, l, own, _, rfl, ⟨Kd.R_lower (row_far (row_far R.out.1 (p := ⟨W.heap.size, 0, none⟩) hXl _) (p := ⟨W.heap.size, 1, none⟩) hXl _) (Nat.le_of_lt hXl), R.out.2⟩, below_set (below_set HW.out (Nat.le_refl _)) (Nat.le_refl _)⟩

set_option maxRecDepth 100000 in
set_option maxHeartbeats 8000000 in
theorem DrawCountOrbits_any {W : World} {v : Value} {l0 : List Int} (h : Rb W v l0) : Calls Try.prog 34 #[v] W (DrawGP W) := by
  obtain ⟨A, c, rfl, hcl, hr, hx⟩ := h
  have hu := Try.underlying26
  have huc := Try.underlying62
  have HW := Aside0.mk (below_alloc (Below.refl W.heap.size W) (.cells #[.slice none 0 0, .bool false] 26))
  have X := Aside0.mk (blk_new W (.cells #[.slice none 0 0, .bool false] 26))
  have HR0 := Aside0.mk (Kd.C_alloc hr (.cells #[.slice none 0 0, .bool false] 26))
  have HXX := Aside0.mk hx
  clear hr hx hcl
  go_enter Try.func34, Try.ntmps34
  go_upto_region 1 with (fail)
  generalize W.alloc (.cells #[.slice none 0 0, .bool false] 26) = w1 at *
  have HC := Aside0.mk (Cur.new w1 A c l0 HR0.out HXX.out)
  have hXg := Nat.ne_of_lt (blk_lt X.out)
  have hXl := blk_lt X.out
  have hRg : w1.heap.size < (w1.alloc (Obj.cells #[Value.slice A l0.length c, Value.int IntKind.i64 0, Value.int IntKind.u64 0] 62)).heap.size := by simp
  go_upto_region 2 with (fail)
  have nX := Aside0.mk (blk_alloc X.out (.cells #[.slice A l0.length c, .int .i64 0, .int .u64 0] 62))
  clear X
  have X := nX
  clear nX
  generalize World.alloc w1 (.cells #[.slice A l0.length c, .int .i64 0, .int .u64 0] 62) = w1s at *
  go_wp2_with (first
    | (go_at_call 62; refine (among_lit _ (HC.out.alloc _) (by omega) (C_lit _ [_, _, _, _] (by simp)) (by have h := HC.out.lt; omega) rfl (by simp)).mono ?_; rintro e w2 ⟨x, rfl, hx, hc, hk⟩; have hxr : 1 ≤ x ∧ x ≤ 16 := (by have h := hx.out; simp at h; omega); have nX := Aside0.mk (hk.blk (blk_alloc X.out _) hXg (by simp)); have hW2 := Aside0.mk hk.1; clear HC X hk; have HC := Aside0.mk hc; have X := nX; clear hc nX)
    | (go_at_call 61; (with_reducible refine (graph_any _ _ HC.out (by omega) hxr.1 hxr.2).mono ?_); rintro e w3 ⟨z, l, own, rfl, hr, hll, hc, hk⟩; obtain ⟨A2, c2, rfl⟩ := Kd.R_slice hr; have nX := Aside0.mk (hk.blk X.out hXg (by simp)); have R := Aside0.mk hr; have hW3 := blk_lt X.out; clear HC X hk hr; have HC := Aside0.mk hc; have X := nX; clear hc nX; (try clear hX0 hX1 fX0 fX1); have hX0 := (blk_cell X.out 0).trans rfl; have hX1 := (blk_cell X.out 1).trans rfl; have fX0 := blk_frozen X.out 0; have fX1 := blk_frozen X.out 1))
  go_wp2
  refine bodyPost_ret (results_cell_row rfl _ _ W.heap.size 26 _ (0, 0) _ rfl (put2_blk X.out _ _) Try.underlying26 rfl (by kernel_rfl)) rfl ?_
  exact ⟨_, l, own, rfl, ⟨Kd.R_lower (row_far (row_far R.out (p := ⟨W.heap.size, 0, none⟩) (by simp only; omega) _) (p := ⟨W.heap.size, 1, none⟩) (by simp only; omega) _) (by omega), by omega⟩, below_set (below_set (below_step HW.out HC.out.base) (Nat.le_refl _)) (Nat.le_refl _)⟩
set_option maxRecDepth 100000 in
set_option maxHeartbeats 8000000 in
theorem DrawOrbitSizes_any {W : World} {v : Value} {l0 : List Int} (h : Rb W v l0) : Calls Try.prog 6 #[v] W (DrawGP W) := by
  have hu := Try.underlying26
  have HW := Aside0.mk (below_alloc (Below.refl W.heap.size W) (.cells #[.slice none 0 0, .bool false] 26))
  have X := Aside0.mk (blk_new W (.cells #[.slice none 0 0, .bool false] 26))
  have H := Aside0.mk (h.below HW.out)
  obtain ⟨A, c, rfl, _⟩ := h
  go_enter Try.func6, Try.ntmps6
  go_upto_region 1 with (fail)
  generalize W.alloc (.cells #[.slice none 0 0, .bool false] 26) = w1 at *
  have hXl := blk_lt X.out
  go_wp2_with (go_at_call 34; (with_reducible refine (DrawCountOrbits_any H.out).mono ?_); rintro e w2 ⟨u, l, own, rfl, hr, hb⟩; obtain ⟨A2, c2, rfl⟩ := hr.slice; have R := Aside0.mk hr; have nX := Aside0.mk (blk_below X.out hb); have nW := Aside0.mk (below_step HW.out hb); clear hr hb X HW; have X := nX; have HW := nW; clear nX nW; (try clear hX0 hX1 fX0 fX1); have hX0 := (blk_cell X.out 0).trans rfl; have hX1 := (blk_cell X.out 1).trans rfl; have fX0 := blk_frozen X.out 0; have fX1 := blk_frozen X.out 1)
  refine bodyPost_ret (results_cell_row rfl _ _ W.heap.size 26 _ (0, 0) _ rfl (put2_blk X.out _ _) Try.underlying26 rfl (by kernel_rfl)) rfl ?_
  exact ⟨_, l, own, rfl, ⟨Kd.R_lower (row_far (row_far R.out.1 (p := ⟨W.heap.size, 0, none⟩) hXl _) (p := ⟨W.heap.size, 1, none⟩) hXl _) (Nat.le_of_lt hXl), R.out.2⟩, below_set (below_set HW.out (Nat.le_refl _)) (Nat.le_refl _)⟩

/-! Draws of lit presses and of ways. -/
set_option maxRecDepth 100000 in
set_option maxHeartbeats 8000000 in
theorem DrawLitPress_any {W : World} {v : Value} {l0 : List Int} (h : Rb W v l0) : Calls Try.prog 22 #[v] W (DrawGSSP W) := by
  obtain ⟨A, c, rfl, hcl, hr, hx⟩ := h
  have hu := Try.underlying26
  have huc := Try.underlying62
  have HW := Aside0.mk (below_alloc (Below.refl W.heap.size W) (.cells #[.slice none 0 0, .bool false] 26))
  have X := Aside0.mk (blk_new W (.cells #[.slice none 0 0, .bool false] 26))
  have HR0 := Aside0.mk (Kd.C_alloc hr (.cells #[.slice none 0 0, .bool false] 26))
  have HXX := Aside0.mk hx
  clear hr hx hcl
  go_enter Try.func22, Try.ntmps22
  go_upto_region 1 with (fail)
  generalize W.alloc (.cells #[.slice none 0 0, .bool false] 26) = w1 at *
  have HC := Aside0.mk (Cur.new w1 A c l0 HR0.out HXX.out)
  have hXg := Nat.ne_of_lt (blk_lt X.out)
  have hXl := blk_lt X.out
  have hRg : w1.heap.size < (w1.alloc (Obj.cells #[Value.slice A l0.length c, Value.int IntKind.i64 0, Value.int IntKind.u64 0] 62)).heap.size := by simp
  go_upto_region 3 with (go_at_call 49; (with_reducible refine (lit_any 8 _ HC.out (by omega) (by omega) (by omega)).mono ?_); rintro e w2 ⟨z, l, own, s, rfl, hr, hll, hc, hk⟩; obtain ⟨A2, c2, rfl⟩ := Kd.R_slice hr; have hXx := blk_alloc X.out (.cells #[.slice A l0.length c, .int .i64 0, .int .u64 0] 62); have nX := Aside0.mk (hk.blk hXx hXg (by simp)); have R := Aside0.mk hr; clear HC X hk hr hXx; have HC := Aside0.mk hc; have X := nX; clear hc nX; (try clear hX0 hX1 fX0 fX1); have hX0 := (blk_cell X.out 0).trans rfl; have hX1 := (blk_cell X.out 1).trans rfl; have fX0 := blk_frozen X.out 0; have fX1 := blk_frozen X.out 1)
  have hY2 := blk_lt X.out
  have hRo := Aside0.mk (Own.of R.out)
  have hYG := HC.out.lt
  clear R
  have R := hRo
  clear hRo
  (try clear hX0 hX1 fX0 fX1)
  have nX := Aside0.mk (blk_alloc X.out (.cells #[.slice A2 l.length c2, .bool own] 26))
  have nR := Aside0.mk (R.out.alloc (.cells #[.slice A2 l.length c2, .bool own] 26))
  have nC := Aside0.mk (HC.out.alloc (.cells #[.slice A2 l.length c2, .bool own] 26))
  have Y := Aside0.mk (blk_new w2 (.cells #[.slice A2 l.length c2, .bool own] 26))
  clear HC X R
  generalize World.alloc w2 (.cells #[.slice A2 l.length c2, .bool own] 26) = w3 at *
  have HC := nC
  have X := nX
  have R := nR
  clear nC nX nR
  have hYg : w2.heap.size ≠ w1.heap.size := Nat.ne_of_gt hYG
  have hYv : w2.heap.size + 1 ≤ w3.heap.size := blk_lt Y.out
  (try clear hY0 hY1 fY0 fY1); have hY0 := (blk_cell Y.out 0).trans rfl; have hY1 := (blk_cell Y.out 1).trans rfl; have fY0 := blk_frozen Y.out 0; have fY1 := blk_frozen Y.out 1
  go_region_held3 (fun w' => w'.cell? ⟨w2.heap.size, 0, none⟩ = some (.slice A2 l.length c2) ∧ w'.cell? ⟨w2.heap.size, 1, none⟩ = some (.bool own)) (first | exact ⟨hY0, hY1⟩ | exact ⟨cell_far2 hY0 (by simp only; omega), cell_far2 hY1 (by simp only; omega)⟩ | exact ⟨cell_far2 (cell_far2 hY0 (by simp only; omega)) (by simp only; omega), cell_far2 (cell_far2 hY1 (by simp only; omega)) (by simp only; omega)⟩ | go_keep) (first
    | (go_at_call 51; (with_reducible refine (most_any _ _ w3.drew).mono ?_); rintro e w5 ⟨m, nm, rfl, hm0, hm1, hm, rfl⟩; have hb := HC.out.dnB (1 + nm); have hc := HC.out.below hb; have hk := HC.out.keepB hb; have nHC := Aside0.mk hc; have nX := Aside0.mk (hk.blk (X.out) hXg (by simp)); have nY := Aside0.mk (hk.blk (Y.out) hYg (by simp)); have nR := Aside0.mk (Own.keep (R.out) hk hRg); (try clear hY0 hY1 fY0 fY1); (try clear hX0 hX1 fX0 fX1); (try clear hb); (try clear ho); (try clear hc hk); clear HC X Y R; have HC := nHC; clear nHC; have X := nX; clear nX; have Y := nY; clear nY; have R := nR; clear nR; (try clear hY0 hY1 fY0 fY1); have hY0 := (blk_cell Y.out 0).trans rfl; have hY1 := (blk_cell Y.out 1).trans rfl; have fY0 := blk_frozen Y.out 0; have fY1 := blk_frozen Y.out 1; (try clear hX0 hX1 fX0 fX1); have hX0 := (blk_cell X.out 0).trans rfl; have hX1 := (blk_cell X.out 1).trans rfl; have fX0 := blk_frozen X.out 0; have fX1 := blk_frozen X.out 1)
    | (go_at_call 51; (with_reducible refine (most_any _ _ w4).mono ?_); rintro e w5 ⟨m, nm, rfl, hm0, hm1, hm, rfl⟩; have hb := HC.out.dnB nm; have hc := HC.out.below hb; have hk := HC.out.keepB hb; have nHC := Aside0.mk hc; have nX := Aside0.mk (hk.blk (X.out) hXg (by simp)); have nY := Aside0.mk (hk.blk (Y.out) hYg (by simp)); have nR := Aside0.mk (Own.keep (R.out) hk hRg); (try clear hY0 hY1 fY0 fY1); (try clear hX0 hX1 fX0 fX1); (try clear hb); (try clear ho); (try clear hc hk); clear HC X Y R; have HC := nHC; clear nHC; have X := nX; clear nX; have Y := nY; clear nY; have R := nR; clear nR; (try clear hY0 hY1 fY0 fY1); have hY0 := (blk_cell Y.out 0).trans rfl; have hY1 := (blk_cell Y.out 1).trans rfl; have fY0 := blk_frozen Y.out 0; have fY1 := blk_frozen Y.out 1; (try clear hX0 hX1 fX0 fX1); have hX0 := (blk_cell X.out 0).trans rfl; have hX1 := (blk_cell X.out 1).trans rfl; have fX0 := blk_frozen X.out 0; have fX1 := blk_frozen X.out 1)
    | (go_at_call 50; (with_reducible refine (pick_any _ _ HC.out.drew (by omega)).mono ?_); rintro e w4 ⟨t4, rfl, h40, h41, h4, hc, hk⟩; have nHC := Aside0.mk hc; have nX := Aside0.mk (hk.blk (blk_drew X.out) hXg (by simp)); have nY := Aside0.mk (hk.blk (blk_drew Y.out) hYg (by simp)); have nR := Aside0.mk (Own.keep (Own.drew R.out) hk hRg); (try clear hY0 hY1 fY0 fY1); (try clear hX0 hX1 fX0 fX1); (try clear hb); (try clear ho); (try clear hc hk); clear HC X Y R; have HC := nHC; clear nHC; have X := nX; clear nX; have Y := nY; clear nY; have R := nR; clear nR; (try clear hY0 hY1 fY0 fY1); have hY0 := (blk_cell Y.out 0).trans rfl; have hY1 := (blk_cell Y.out 1).trans rfl; have fY0 := blk_frozen Y.out 0; have fY1 := blk_frozen Y.out 1; (try clear hX0 hX1 fX0 fX1); have hX0 := (blk_cell X.out 0).trans rfl; have hX1 := (blk_cell X.out 1).trans rfl; have fX0 := blk_frozen X.out 0; have fX1 := blk_frozen X.out 1)
    | (go_at_call 50; (with_reducible refine (pick_any _ _ HC.out (by omega)).mono ?_); rintro e w6 ⟨t6, rfl, h60, h61, h6, hc, hk⟩; have nHC := Aside0.mk hc; have nX := Aside0.mk (hk.blk (X.out) hXg (by simp)); have nY := Aside0.mk (hk.blk (Y.out) hYg (by simp)); have nR := Aside0.mk (Own.keep (R.out) hk hRg); (try clear hY0 hY1 fY0 fY1); (try clear hX0 hX1 fX0 fX1); (try clear hb); (try clear ho); (try clear hc hk); clear HC X Y R; have HC := nHC; clear nHC; have X := nX; clear nX; have Y := nY; clear nY; have R := nR; clear nR; (try clear hY0 hY1 fY0 fY1); have hY0 := (blk_cell Y.out 0).trans rfl; have hY1 := (blk_cell Y.out 1).trans rfl; have fY0 := blk_frozen Y.out 0; have fY1 := blk_frozen Y.out 1; (try clear hX0 hX1 fX0 fX1); have hX0 := (blk_cell X.out 0).trans rfl; have hX1 := (blk_cell X.out 1).trans rfl; have fX0 := blk_frozen X.out 0; have fX1 := blk_frozen X.out 1))
  (go_wp2; refine bodyPost_ret (results_ctt rfl _ _ W.heap.size 26 _ (0, 0) _ rfl (put2_blk X.out _ _) Try.underlying26 rfl (by kernel_rfl)) rfl ?_; exact ⟨_, l, own, _, _, rfl, ⟨Kd.R_lower (row_far (row_far R.out (p := ⟨W.heap.size, 0, none⟩) (by simp only; omega) _) (p := ⟨W.heap.size, 1, none⟩) (by simp only; omega) _) (by omega), by omega⟩, below_set (below_set (below_step HW.out HC.out.base) (Nat.le_refl _)) (Nat.le_refl _)⟩)
def DrawWayToP (W : World) (e : Ending) (W' : World) : Prop := ∃ (u : Value) (m : List Int) (own : Bool) (a b : Int), e = .returned (.tuple #[.agg #[u, .bool own], .int .i64 a, .int .i64 b]) ∧ Nw W W' u m ∧ Below W.heap.size W W' ∧ (m.length ≤ 6 ∨ 16 ≤ m.length)
set_option maxRecDepth 100000 in
set_option maxHeartbeats 8000000 in
theorem DrawWayTo_any {W : World} {v : Value} {l0 : List Int} (h : Rb W v l0) : Calls Try.prog 25 #[v] W (DrawWayToP W) := by
  obtain ⟨A, c, rfl, hcl, hr, hx⟩ := h
  have hu := Try.underlying26
  have huc := Try.underlying62
  have HW := Aside0.mk (below_alloc (Below.refl W.heap.size W) (.cells #[.slice none 0 0, .bool false] 26))
  have X := Aside0.mk (blk_new W (.cells #[.slice none 0 0, .bool false] 26))
  have HR0 := Aside0.mk (Kd.C_alloc hr (.cells #[.slice none 0 0, .bool false] 26))
  have HXX := Aside0.mk hx
  clear hr hx hcl
  go_enter Try.func25, Try.ntmps25
  go_upto_region 1 with (fail)
  generalize W.alloc (.cells #[.slice none 0 0, .bool false] 26) = w1 at *
  have HC := Aside0.mk (Cur.new w1 A c l0 HR0.out HXX.out)
  have hXg := Nat.ne_of_lt (blk_lt X.out)
  have hXl := blk_lt X.out
  have hRg : w1.heap.size < (w1.alloc (Obj.cells #[Value.slice A l0.length c, Value.int IntKind.i64 0, Value.int IntKind.u64 0] 62)).heap.size := by simp
  go_upto_region 3 with (go_at_call 49; (with_reducible refine (lit_any 6 _ HC.out (by omega) (by omega) (by omega)).mono ?_); rintro e w2 ⟨z, l, own, s, rfl, hr, hll, hc, hk⟩; obtain ⟨A2, c2, rfl⟩ := Kd.R_slice hr; have hXx := blk_alloc X.out (.cells #[.slice A l0.length c, .int .i64 0, .int .u64 0] 62); have nX := Aside0.mk (hk.blk hXx hXg (by simp)); have R := Aside0.mk hr; clear HC X hk hr hXx; have HC := Aside0.mk hc; have X := nX; clear hc nX; (try clear hX0 hX1 fX0 fX1); have hX0 := (blk_cell X.out 0).trans rfl; have hX1 := (blk_cell X.out 1).trans rfl; have fX0 := blk_frozen X.out 0; have fX1 := blk_frozen X.out 1)
  have hY2 := blk_lt X.out
  have hRo := Aside0.mk (Own.of R.out)
  have hYG := HC.out.lt
  clear R
  have R := hRo
  clear hRo
  (try clear hX0 hX1 fX0 fX1)
  have nX := Aside0.mk (blk_alloc X.out (.cells #[.slice A2 l.length c2, .bool own] 26))
  have nR := Aside0.mk (R.out.alloc (.cells #[.slice A2 l.length c2, .bool own] 26))
  have nC := Aside0.mk (HC.out.alloc (.cells #[.slice A2 l.length c2, .bool own] 26))
  have Y := Aside0.mk (blk_new w2 (.cells #[.slice A2 l.length c2, .bool own] 26))
  clear HC X R
  generalize World.alloc w2 (.cells #[.slice A2 l.length c2, .bool own] 26) = w3 at *
  have HC := nC
  have X := nX
  have R := nR
  clear nC nX nR
  have hYg : w2.heap.size ≠ w1.heap.size := Nat.ne_of_gt hYG
  have hYv : w2.heap.size + 1 ≤ w3.heap.size := blk_lt Y.out
  (try clear hY0 hY1 fY0 fY1); have hY0 := (blk_cell Y.out 0).trans rfl; have hY1 := (blk_cell Y.out 1).trans rfl; have fY0 := blk_frozen Y.out 0; have fY1 := blk_frozen Y.out 1
  obtain ⟨sb, hq_⟩ : ∃ r, (setOk l s) = r := ⟨_, rfl⟩; have SB := Aside0.mk hq_; clear hq_
  cases sb
  · go_upto_region 6 with (go_at_call 45; (with_reducible refine (spec_liSet.sem own s (R.out.rd (by omega)) SB.out).mono ?_); rintro e w4 ⟨rfl, hb⟩; have hc := HC.out.below hb; have hk := HC.out.keepB hb; have nHC := Aside0.mk hc; have nX := Aside0.mk (hk.blk (X.out) hXg (by simp)); have nY := Aside0.mk (hk.blk (Y.out) hYg (by simp)); have nR := Aside0.mk (Own.keep (R.out) hk hRg); (try clear hY0 hY1 fY0 fY1); (try clear hX0 hX1 fX0 fX1); (try clear hb); (try clear ho); (try clear hc hk); clear HC X Y R; have HC := nHC; clear nHC; have X := nX; clear nX; have Y := nY; clear nY; have R := nR; clear nR; (try clear hY0 hY1 fY0 fY1); have hY0 := (blk_cell Y.out 0).trans rfl; have hY1 := (blk_cell Y.out 1).trans rfl; have fY0 := blk_frozen Y.out 0; have fY1 := blk_frozen Y.out 1; (try clear hX0 hX1 fX0 fX1); have hX0 := (blk_cell X.out 0).trans rfl; have hX1 := (blk_cell X.out 1).trans rfl; have fX0 := blk_frozen X.out 0; have fX1 := blk_frozen X.out 1)
    go_region_held3 (fun w' => w'.cell? ⟨w2.heap.size, 0, none⟩ = some (.slice A2 l.length c2) ∧ w'.cell? ⟨w2.heap.size, 1, none⟩ = some (.bool own)) (first | exact ⟨hY0, hY1⟩ | exact ⟨cell_far2 hY0 (by simp only; omega), cell_far2 hY1 (by simp only; omega)⟩ | exact ⟨cell_far2 (cell_far2 hY0 (by simp only; omega)) (by simp only; omega), cell_far2 (cell_far2 hY1 (by simp only; omega)) (by simp only; omega)⟩ | go_keep) (first
      | (go_at_call 55; (with_reducible refine (set_any own _ HC.out.drew (by omega) (by omega)).mono ?_); rintro e w5 ⟨a5, rfl, hc, hk⟩; have nHC := Aside0.mk hc; have nX := Aside0.mk (hk.blk (blk_drew X.out) hXg (by simp)); have nY := Aside0.mk (hk.blk (blk_drew Y.out) hYg (by simp)); have nR := Aside0.mk (Own.keep (Own.drew R.out) hk hRg); (try clear hY0 hY1 fY0 fY1); (try clear hX0 hX1 fX0 fX1); (try clear hb); (try clear ho); (try clear hc hk); clear HC X Y R; have HC := nHC; clear nHC; have X := nX; clear nX; have Y := nY; clear nY; have R := nR; clear nR; (try clear hY0 hY1 fY0 fY1); have hY0 := (blk_cell Y.out 0).trans rfl; have hY1 := (blk_cell Y.out 1).trans rfl; have fY0 := blk_frozen Y.out 0; have fY1 := blk_frozen Y.out 1; (try clear hX0 hX1 fX0 fX1); have hX0 := (blk_cell X.out 0).trans rfl; have hX1 := (blk_cell X.out 1).trans rfl; have fX0 := blk_frozen X.out 0; have fX1 := blk_frozen X.out 1)
      | (go_at_call 55; (with_reducible refine (set_any own _ HC.out (by omega) (by omega)).mono ?_); rintro e w6 ⟨a5, rfl, hc, hk⟩; have nHC := Aside0.mk hc; have nX := Aside0.mk (hk.blk (X.out) hXg (by simp)); have nY := Aside0.mk (hk.blk (Y.out) hYg (by simp)); have nR := Aside0.mk (Own.keep (R.out) hk hRg); (try clear hY0 hY1 fY0 fY1); (try clear hX0 hX1 fX0 fX1); (try clear hb); (try clear ho); (try clear hc hk); clear HC X Y R; have HC := nHC; clear nHC; have X := nX; clear nX; have Y := nY; clear nY; have R := nR; clear nR; (try clear hY0 hY1 fY0 fY1); have hY0 := (blk_cell Y.out 0).trans rfl; have hY1 := (blk_cell Y.out 1).trans rfl; have fY0 := blk_frozen Y.out 0; have fY1 := blk_frozen Y.out 1; (try clear hX0 hX1 fX0 fX1); have hX0 := (blk_cell X.out 0).trans rfl; have hX1 := (blk_cell X.out 1).trans rfl; have fX0 := blk_frozen X.out 0; have fX1 := blk_frozen X.out 1))
    (go_wp2; refine bodyPost_ret (results_ctt rfl _ _ W.heap.size 26 _ (0, 0) _ rfl (put2_blk X.out _ _) Try.underlying26 rfl (by kernel_rfl)) rfl ?_; exact ⟨_, l, own, _, _, rfl, ⟨Kd.R_lower (row_far (row_far R.out (p := ⟨W.heap.size, 0, none⟩) (by simp only; omega) _) (p := ⟨W.heap.size, 1, none⟩) (by simp only; omega) _) (by omega), by omega⟩, below_set (below_set (below_step HW.out HC.out.base) (Nat.le_refl _)) (Nat.le_refl _), by omega⟩)
  · go_upto_region 4 with (first
      | (go_at_call 45; (with_reducible refine (spec_liSet.sem own s (R.out.rd (by omega)) SB.out).mono ?_); rintro e w4 ⟨rfl, hb⟩; have hc := HC.out.below hb; have hk := HC.out.keepB hb; have nHC := Aside0.mk hc; have nX := Aside0.mk (hk.blk (X.out) hXg (by simp)); have nY := Aside0.mk (hk.blk (Y.out) hYg (by simp)); have nR := Aside0.mk (Own.keep (R.out) hk hRg); (try clear hY0 hY1 fY0 fY1); (try clear hX0 hX1 fX0 fX1); (try clear hb); (try clear ho); (try clear hc hk); clear HC X Y R; have HC := nHC; clear nHC; have X := nX; clear nX; have Y := nY; clear nY; have R := nR; clear nR; (try clear hY0 hY1 fY0 fY1); have hY0 := (blk_cell Y.out 0).trans rfl; have hY1 := (blk_cell Y.out 1).trans rfl; have fY0 := blk_frozen Y.out 0; have fY1 := blk_frozen Y.out 1; (try clear hX0 hX1 fX0 fX1); have hX0 := (blk_cell X.out 0).trans rfl; have hX1 := (blk_cell X.out 1).trans rfl; have fX0 := blk_frozen X.out 0; have fX1 := blk_frozen X.out 1)
      | (go_at_call 54; (with_reducible refine (one_any _ _ HC.out (by omega)).mono ?_); rintro e w5 ⟨b, rfl, hc, hk⟩; have nHC := Aside0.mk hc; have nX := Aside0.mk (hk.blk (X.out) hXg (by simp)); have nY := Aside0.mk (hk.blk (Y.out) hYg (by simp)); have nR := Aside0.mk (Own.keep (R.out) hk hRg); (try clear hY0 hY1 fY0 fY1); (try clear hX0 hX1 fX0 fX1); (try clear hb); (try clear ho); (try clear hc hk); clear HC X Y R; have HC := nHC; clear nHC; have X := nX; clear nX; have Y := nY; clear nY; have R := nR; clear nR; (try clear hY0 hY1 fY0 fY1); have hY0 := (blk_cell Y.out 0).trans rfl; have hY1 := (blk_cell Y.out 1).trans rfl; have fY0 := blk_frozen Y.out 0; have fY1 := blk_frozen Y.out 1; (try clear hX0 hX1 fX0 fX1); have hX0 := (blk_cell X.out 0).trans rfl; have hX1 := (blk_cell X.out 1).trans rfl; have fX0 := blk_frozen X.out 0; have fX1 := blk_frozen X.out 1))
    · obtain ⟨hG, hn9, hs⟩ := setOk_of SB.out
      obtain ⟨hs0, hs1, hs2⟩ := inSet_lt hs
      have hself := orbit_self l hG _ hs1
      obtain ⟨os, hq_⟩ : ∃ r, (ints (orbitOf l false s.toNat)) = r := ⟨_, rfl⟩; have EO := Aside0.mk hq_; clear hq_
      have hp : 0 < os.length := by rw [← EO.out, ints_length]; exact List.length_pos_of_mem hself
      clear hself hs2
      go_upto_region 5 with (go_at_call 46; (with_reducible refine (spec_liReach.sem own s (R.out.rd (by omega)) SB.out EO.out).mono ?_); rintro e w6 ⟨u6, rfl, hr, hb⟩; obtain ⟨A6, c6, rfl⟩ := hr.slice; have HQ := Aside0.mk hr.1; have hQl := hr.2; have hQg := HC.out.lt; clear hr; have hc := HC.out.below hb; have hk := HC.out.keepB hb; have nHC := Aside0.mk hc; have nX := Aside0.mk (hk.blk (X.out) hXg (by simp)); have nY := Aside0.mk (hk.blk (Y.out) hYg (by simp)); have nR := Aside0.mk (Own.keep (R.out) hk hRg); (try clear hY0 hY1 fY0 fY1); (try clear hX0 hX1 fX0 fX1); (try clear hb); (try clear ho); (try clear hc hk); clear HC X Y R; have HC := nHC; clear nHC; have X := nX; clear nX; have Y := nY; clear nY; have R := nR; clear nR; (try clear hY0 hY1 fY0 fY1); have hY0 := (blk_cell Y.out 0).trans rfl; have hY1 := (blk_cell Y.out 1).trans rfl; have fY0 := blk_frozen Y.out 0; have fY1 := blk_frozen Y.out 1; (try clear hX0 hX1 fX0 fX1); have hX0 := (blk_cell X.out 0).trans rfl; have hX1 := (blk_cell X.out 1).trans rfl; have fX0 := blk_frozen X.out 0; have fX1 := blk_frozen X.out 1)
      obtain ⟨ad, rfl, _⟩ := (Rd.of HQ.out hQl).cell 0 (Int.le_refl _) (by omega)
      go_region_held3 (fun w' => w'.cell? ⟨w2.heap.size, 0, none⟩ = some (.slice A2 l.length c2) ∧ w'.cell? ⟨w2.heap.size, 1, none⟩ = some (.bool own) ∧ ∀ j : Nat, j < os.length → w'.cell? (ad.add j) = some (.int .i64 (rd os (j : Int)))) (first | exact ⟨hY0, hY1, fun j hj => (Rd.of HQ.out hQl).cellN j hj⟩ | exact ⟨cell_far2 hY0 (by simp only; omega), cell_far2 hY1 (by simp only; omega), fun j hj => (Rd.of (row_far HQ.out (p := ⟨W.heap.size, 0, none⟩) (by simp only; omega) _) hQl).cellN j hj⟩ | exact ⟨cell_far2 (cell_far2 hY0 (by simp only; omega)) (by simp only; omega), cell_far2 (cell_far2 hY1 (by simp only; omega)) (by simp only; omega), fun j hj => (Rd.of (row_far (row_far HQ.out (p := ⟨W.heap.size, 0, none⟩) (by simp only; omega) _) (p := ⟨W.heap.size, 1, none⟩) (by simp only; omega) _) hQl).cellN j hj⟩ | go_keep) (first
        | (go_at_call 50; (with_reducible refine (pick_any _ _ HC.out.drew (by omega)).mono ?_); rintro e w7 ⟨t, rfl, ht0, ht1, ht, hc, hk⟩; have ht2 : t < os.length := (by have h := ht.out; omega); obtain ⟨j, rfl⟩ : ∃ j : Nat, t = (j : Int) := ⟨t.toNat, (by omega)⟩; have hj : j < os.length := (by omega); have nHC := Aside0.mk hc; have nX := Aside0.mk (hk.blk (blk_drew X.out) hXg (by simp)); have nY := Aside0.mk (hk.blk (blk_drew Y.out) hYg (by simp)); have nR := Aside0.mk (Own.keep (Own.drew R.out) hk hRg); have nHQ := Aside0.mk (row_keep (Kd.R_drew HQ.out) hk hQg); (try clear hY0 hY1 fY0 fY1); (try clear hX0 hX1 fX0 fX1); (try clear hb); (try clear ho); (try clear hc hk); clear HC X Y R HQ; have HC := nHC; clear nHC; have X := nX; clear nX; have Y := nY; clear nY; have R := nR; clear nR; have HQ := nHQ; clear nHQ; (try clear hY0 hY1 fY0 fY1); have hY0 := (blk_cell Y.out 0).trans rfl; have hY1 := (blk_cell Y.out 1).trans rfl; have fY0 := blk_frozen Y.out 0; have fY1 := blk_frozen Y.out 1; (try clear hX0 hX1 fX0 fX1); have hX0 := (blk_cell X.out 0).trans rfl; have hX1 := (blk_cell X.out 1).trans rfl; have fX0 := blk_frozen X.out 0; have fX1 := blk_frozen X.out 1; have hq := (Rd.of HQ.out hQl).cellN j hj)
        | (go_at_call 50; (with_reducible refine (pick_any _ _ HC.out (by omega)).mono ?_); rintro e w8 ⟨t, rfl, ht0, ht1, ht, hc, hk⟩; have ht2 : t < os.length := (by have h := ht.out; omega); obtain ⟨j, rfl⟩ : ∃ j : Nat, t = (j : Int) := ⟨t.toNat, (by omega)⟩; have hj : j < os.length := (by omega); have nHC := Aside0.mk hc; have nX := Aside0.mk (hk.blk (X.out) hXg (by simp)); have nY := Aside0.mk (hk.blk (Y.out) hYg (by simp)); have nR := Aside0.mk (Own.keep (R.out) hk hRg); have nHQ := Aside0.mk (row_keep (HQ.out) hk hQg); (try clear hY0 hY1 fY0 fY1); (try clear hX0 hX1 fX0 fX1); (try clear hb); (try clear ho); (try clear hc hk); clear HC X Y R HQ; have HC := nHC; clear nHC; have X := nX; clear nX; have Y := nY; clear nY; have R := nR; clear nR; have HQ := nHQ; clear nHQ; (try clear hY0 hY1 fY0 fY1); have hY0 := (blk_cell Y.out 0).trans rfl; have hY1 := (blk_cell Y.out 1).trans rfl; have fY0 := blk_frozen Y.out 0; have fY1 := blk_frozen Y.out 1; (try clear hX0 hX1 fX0 fX1); have hX0 := (blk_cell X.out 0).trans rfl; have hX1 := (blk_cell X.out 1).trans rfl; have fX0 := blk_frozen X.out 0; have fX1 := blk_frozen X.out 1; have hq := (Rd.of HQ.out hQl).cellN j hj))
      (go_wp2; refine bodyPost_ret (results_ctt rfl _ _ W.heap.size 26 _ (0, 0) _ rfl (put2_blk X.out _ _) Try.underlying26 rfl (by kernel_rfl)) rfl ?_; exact ⟨_, l, own, _, _, rfl, ⟨Kd.R_lower (row_far (row_far R.out (p := ⟨W.heap.size, 0, none⟩) (by simp only; omega) _) (p := ⟨W.heap.size, 1, none⟩) (by simp only; omega) _) (by omega), by omega⟩, below_set (below_set (below_step HW.out HC.out.base) (Nat.le_refl _)) (Nat.le_refl _), by omega⟩)
    · go_region_held3 (fun w' => w'.cell? ⟨w2.heap.size, 0, none⟩ = some (.slice A2 l.length c2) ∧ w'.cell? ⟨w2.heap.size, 1, none⟩ = some (.bool own)) (first | exact ⟨hY0, hY1⟩ | exact ⟨cell_far2 hY0 (by simp only; omega), cell_far2 hY1 (by simp only; omega)⟩ | exact ⟨cell_far2 (cell_far2 hY0 (by simp only; omega)) (by simp only; omega), cell_far2 (cell_far2 hY1 (by simp only; omega)) (by simp only; omega)⟩ | go_keep) (first
        | (go_at_call 55; (with_reducible refine (set_any own _ HC.out.drew (by omega) (by omega)).mono ?_); rintro e w5 ⟨a5, rfl, hc, hk⟩; have nHC := Aside0.mk hc; have nX := Aside0.mk (hk.blk (blk_drew X.out) hXg (by simp)); have nY := Aside0.mk (hk.blk (blk_drew Y.out) hYg (by simp)); have nR := Aside0.mk (Own.keep (Own.drew R.out) hk hRg); (try clear hY0 hY1 fY0 fY1); (try clear hX0 hX1 fX0 fX1); (try clear hb); (try clear ho); (try clear hc hk); clear HC X Y R; have HC := nHC; clear nHC; have X := nX; clear nX; have Y := nY; clear nY; have R := nR; clear nR; (try clear hY0 hY1 fY0 fY1); have hY0 := (blk_cell Y.out 0).trans rfl; have hY1 := (blk_cell Y.out 1).trans rfl; have fY0 := blk_frozen Y.out 0; have fY1 := blk_frozen Y.out 1; (try clear hX0 hX1 fX0 fX1); have hX0 := (blk_cell X.out 0).trans rfl; have hX1 := (blk_cell X.out 1).trans rfl; have fX0 := blk_frozen X.out 0; have fX1 := blk_frozen X.out 1)
        | (go_at_call 55; (with_reducible refine (set_any own _ HC.out (by omega) (by omega)).mono ?_); rintro e w6 ⟨a5, rfl, hc, hk⟩; have nHC := Aside0.mk hc; have nX := Aside0.mk (hk.blk (X.out) hXg (by simp)); have nY := Aside0.mk (hk.blk (Y.out) hYg (by simp)); have nR := Aside0.mk (Own.keep (R.out) hk hRg); (try clear hY0 hY1 fY0 fY1); (try clear hX0 hX1 fX0 fX1); (try clear hb); (try clear ho); (try clear hc hk); clear HC X Y R; have HC := nHC; clear nHC; have X := nX; clear nX; have Y := nY; clear nY; have R := nR; clear nR; (try clear hY0 hY1 fY0 fY1); have hY0 := (blk_cell Y.out 0).trans rfl; have hY1 := (blk_cell Y.out 1).trans rfl; have fY0 := blk_frozen Y.out 0; have fY1 := blk_frozen Y.out 1; (try clear hX0 hX1 fX0 fX1); have hX0 := (blk_cell X.out 0).trans rfl; have hX1 := (blk_cell X.out 1).trans rfl; have fX0 := blk_frozen X.out 0; have fX1 := blk_frozen X.out 1))
      (go_wp2; refine bodyPost_ret (results_ctt rfl _ _ W.heap.size 26 _ (0, 0) _ rfl (put2_blk X.out _ _) Try.underlying26 rfl (by kernel_rfl)) rfl ?_; exact ⟨_, l, own, _, _, rfl, ⟨Kd.R_lower (row_far (row_far R.out (p := ⟨W.heap.size, 0, none⟩) (by simp only; omega) _) (p := ⟨W.heap.size, 1, none⟩) (by simp only; omega) _) (by omega), by omega⟩, below_set (below_set (below_step HW.out HC.out.base) (Nat.le_refl _)) (Nat.le_refl _), by omega⟩)
end Go.Proofs.Ytjkijnggjjoheaa.Draw
