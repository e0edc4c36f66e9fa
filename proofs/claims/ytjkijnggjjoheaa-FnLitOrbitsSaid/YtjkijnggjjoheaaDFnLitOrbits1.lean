/- What is drawn for FnLitOrbits: within bounds, whatever it is. -/
import Derived.Test.YtjkijnggjjoheaaPFnLitOrbitsx
import Derived.Test.YtjkijnggjjoheaaQFnLitOrbits0
import Derived.Test.YtjkijnggjjoheaaQFnLitOrbits1
import Derived.Test.YtjkijnggjjoheaaM1
import Derived.Test.YtjkijnggjjoheaaM18
import Derived.WalkKit
import Derived.RowKit3
import Derived.Deep.QuietTactic
import Derived.BigQuiet
import Derived.Deep.DeepCutAuto
import Derived.Deep.CutBlock
import Derived.Deep.LoopGhost
import Derived.Outline
import Derived.Deep.DeepFit
import Derived.Test.YtjkijnggjjoheaaDFnLitOrbits0
namespace Go.Proofs.Ytjkijnggjjoheaa.Draw
open Go.RowKit Go.Proofs.Ytjkijnggjjoheaa.PFnLitOrbits Go.Proofs.YtjkijnggjjoheaaW.PrintWords Go.Proofs.YtjkijnggjjoheaaW.PrintLast Go.Proofs.YtjkijnggjjoheaaW.PrintMore Go.Proofs.YtjkijnggjjoheaaM Go.Proofs.Ytjkijnggjjoheaa.Pure
attribute [local go_sem] max2_int min2_int max_two min_two max_three min_three max_four min_four
set_option linter.unusedVariables false
set_option linter.unusedSimpArgs false
variable {w0 w w1 W : World} {g : Nat} {a : Int}
/-! What a law holds: slices that are read, graphs in boxes of its own. -/
/-- The slice v reads as l. -/
def Rd (W : World) (v : Value) (l : List Int) : Prop := ∃ A c, v = .slice A l.length c ∧ l.length ≤ c ∧ Kd.C (Kd.int .i64) W A l.length l ∧ l.length ≤ 1048576
theorem Rd.below {W W' : World} {v : Value} {l : List Int} (h : Rd W v l) (hb : Below W.heap.size W W') : Rd W' v l := by obtain ⟨A, c, e, hc, hr, hl⟩ := h; exact ⟨A, c, e, hc, Kd.C_below hr hb, hl⟩
theorem Rd.alloc {W : World} {v : Value} {l : List Int} (h : Rd W v l) (o : Obj) : Rd (W.alloc o) v l := h.below (below_alloc (Below.refl _ _) o)
theorem Rd.of {W : World} {base : Nat} {ok : Nat → Prop} {v : Value} {l : List Int} (h : Kd.R (Kd.int .i64) 3 W base ok v l) (hl : l.length ≤ 1048576) : Rd W v l := by obtain ⟨A, c, e, hc, hr⟩ := Kd.R_reads h; exact ⟨A, c, e, hc, hr, hl⟩
theorem Rd.len {W : World} {v : Value} {l : List Int} (h : Rd W v l) : l.length ≤ 1048576 := by obtain ⟨A, c, e, hc, hr, hl⟩ := h; exact hl
theorem Rd.cell {W : World} {A : Option Addr} {n c : Nat} {l : List Int} (h : Rd W (.slice A n c) l) (i : Int) (h0 : 0 ≤ i) (h1 : i < n) : ∃ ad, A = some ad ∧ W.cell? (ad.add i.toNat) = some (.int .i64 (rd l i)) := by
  obtain ⟨B, c', e, hc, hr, hl⟩ := h
  injection e with e1 e2 e3
  subst e1 e2
  exact Kd.at_int hr i h0 h1
theorem Rd.slice {W : World} {v : Value} {l : List Int} (h : Rd W v l) : ∃ A c, v = .slice A l.length c := by obtain ⟨A, c, e, _⟩ := h; exact ⟨A, c, e⟩
theorem add_zero_ (a : Addr) : a.add 0 = a := by cases a; simp [Addr.add]
theorem Rd.cellN {W : World} {A : Addr} {n c : Nat} {l : List Int} (h : Rd W (.slice (some A) n c) l) (i : Nat) (h1 : i < n) : W.cell? (A.add i) = some (.int .i64 (rd l (i : Int))) := by
  obtain ⟨ad, e, h⟩ := h.cell (i : Int) (by omega) (by omega)
  injection e with e
  rw [e]
  exact h
theorem Rd.cell0 {W : World} {A : Option Addr} {n c : Nat} {l : List Int} (h : Rd W (.slice A n c) l) (h1 : 0 < n) {x : Int} (hx : rd l 0 = x) : ∃ ad, A = some ad ∧ W.cell? ad = some (.int .i64 x) := by
  obtain ⟨ad, e, h⟩ := h.cell 0 (by omega) (by omega)
  exact ⟨ad, e, by rw [← hx, ← h]; exact congrArg _ (add_zero_ ad).symm⟩
theorem natbeq (a b : Nat) : ((a : Int) == (b : Int)) = (a == b) := by rw [Bool.eq_iff_iff, beq_iff_eq, beq_iff_eq]; omega
/-- A graph in a box. -/
def Gbox (W : World) (b : Nat) (v : Value) (own : Bool) (l : List Int) : Prop := W.heap[b]? = some (.cells #[v, .bool own] 26 (0, 0)) ∧ Rd W v l
theorem Gbox.below {W W' : World} {b : Nat} {v : Value} {own : Bool} {l : List Int} (h : Gbox W b v own l) (hb : Below W.heap.size W W') : Gbox W' b v own l := ⟨blk_below h.1 hb, h.2.below hb⟩
theorem Gbox.rd {W : World} {b : Nat} {v : Value} {own : Bool} {l : List Int} (h : Gbox W b v own l) : Rd W v l := h.2
theorem Gbox.cells {W : World} {b : Nat} {v : Value} {own : Bool} {l : List Int} (h : Gbox W b v own l) : W.cell? ⟨b, 0, none⟩ = some v ∧ W.cell? ⟨b, 1, none⟩ = some (.bool own) := ⟨(blk_cell h.1 0).trans rfl, (blk_cell h.1 1).trans rfl⟩
theorem Gbox.new {W W' : World} {v : Value} {own : Bool} {l : List Int} (h : Rd W v l) (hb : Below (W.alloc (.cells #[v, .bool own] 26)).heap.size (W.alloc (.cells #[v, .bool own] 26)) W') : Gbox W' W.heap.size v own l :=
  ⟨blk_below (blk_new W _) hb, (h.alloc _).below hb⟩
/-- Bytes that came in. -/
def Rb (W : World) (v : Value) (l : List Int) : Prop := ∃ A c, v = .slice A l.length c ∧ l.length ≤ c ∧ Kd.C (Kd.int .u8) W A l.length l ∧ ∀ x ∈ l, 0 ≤ x ∧ x ≤ 255
theorem byte_wf {x : Int} (h : (Lit.int .u8 x).wf = true) : 0 ≤ x ∧ x ≤ 255 := by
  simp [Lit.wf, IntKind.min, IntKind.max, IntKind.bits, IntKind.signed] at h
  omega
theorem Rb.row {W : World} {a : Option Addr} {len cap : Nat} {z : List Int} (h : YtjkijnggjjoheaaGr.IsRow .u8 W a len cap z) : ∃ l, Rb W (.slice a len cap) l := by
  obtain ⟨l, rfl, hr, hm, hw, hc⟩ := ReadsInt.ofRowC h
  exact ⟨l, a, cap, rfl, hc, Kd.C_of_reads (d := (0 : Int)) (h1 := fun _ => rfl) hr, fun x hx => byte_wf (hw x hx)⟩
theorem Rb.below {W W' : World} {v : Value} {l : List Int} (h : Rb W v l) (hb : Below W.heap.size W W') : Rb W' v l := by obtain ⟨A, c, e, hc, hr, hx⟩ := h; exact ⟨A, c, e, hc, Kd.C_below hr hb, hx⟩
theorem big_any {W : World} {v v2 : Value} {l l2 : List Int} (h : Rb W v l) (h2 : Rb W v2 l2) : Calls Try.prog 5 #[v, v2] W fun e W' => ∃ (n : Nat) (b : Bool), e = .returned (.bool b) ∧ W' = W.drewN n := by
  obtain ⟨A, c, rfl, hc, hr, _⟩ := h
  obtain ⟨A2, c2, rfl, hc2, hr2, _⟩ := h2
  obtain ⟨b, e⟩ : ∃ b, laws_big.f l l2 = some b := by unfold laws_big.f; split <;> exact ⟨_, rfl⟩
  exact (laws_big.calls A c l A2 c2 l2 b W hr hc hr2 hc2 e).mono fun _ _ ⟨he, n, hn⟩ => ⟨n, b, he, hn⟩
/-! Rows behind a state's calls. -/
theorem row_keep {W W' : World} {base : Nat} {ok : Nat → Prop} {v : Value} {l : List Int} (h : Kd.R (Kd.int .i64) 3 W base ok v l) (hk : KeepBut W W' g none) (hg : g < base) : Kd.R (Kd.int .i64) 3 W' base (fun _ => True) v l :=
  Kd.R_mono (Kd.R_keep (Kd.R_bound h) hk (fun k hk => by have := hk.2.1; omega)) (fun _ _ => trivial)
theorem row_far {W : World} {base : Nat} {ok : Nat → Prop} {v : Value} {l : List Int} (h : Kd.R (Kd.int .i64) 3 W base ok v l) {p : Addr} (hp : p.block < base) (u : Value) : Kd.R (Kd.int .i64) 3 (W.setCell p u) base (fun _ => True) v l :=
  Kd.R_mono (Kd.R_far (Kd.R_bound h) (fun k hk => by have := hk.2.1; omega) u) (fun _ _ => trivial)
/-- A slice of the call's own, in new memory. -/
def Nw (W W' : World) (u : Value) (m : List Int) : Prop := Kd.R (Kd.int .i64) 3 W' W.heap.size (fun _ => True) u m ∧ m.length ≤ 1048576
theorem Nw.rd {W W' : World} {u : Value} {m : List Int} (h : Nw W W' u m) : Rd W' u m := Rd.of h.1 h.2
theorem Nw.slice {W W' : World} {u : Value} {m : List Int} (h : Nw W W' u m) : ∃ A c, u = .slice A m.length c := h.rd.slice
def DrawGP (W : World) (e : Ending) (W' : World) : Prop := ∃ (u : Value) (m : List Int) (own : Bool), e = .returned (.agg #[u, .bool own]) ∧ Nw W W' u m ∧ Below W.heap.size W W'
def DrawGSP (W : World) (e : Ending) (W' : World) : Prop := ∃ (u : Value) (m : List Int) (own : Bool) (a : Int), e = .returned (.tuple #[.agg #[u, .bool own], .int .i64 a]) ∧ Nw W W' u m ∧ Below W.heap.size W W'
def DrawGSSP (W : World) (e : Ending) (W' : World) : Prop := ∃ (u : Value) (m : List Int) (own : Bool) (a b : Int), e = .returned (.tuple #[.agg #[u, .bool own], .int .i64 a, .int .i64 b]) ∧ Nw W W' u m ∧ Below W.heap.size W W'
def DrawGSWP (W : World) (e : Ending) (W' : World) : Prop := ∃ (u : Value) (m : List Int) (own : Bool) (a : Int) (u2 : Value) (m2 : List Int), e = .returned (.tuple #[.agg #[u, .bool own], .int .i64 a, u2]) ∧ Nw W W' u m ∧ Nw W W' u2 m2 ∧ Below W.heap.size W W'
/-- A row of its own, in blocks from lo on below hi. -/
def Own (W : World) (lo hi : Nat) (v : Value) (l : List Int) : Prop := Kd.R (Kd.int .i64) 3 W lo (fun k => lo ≤ k ∧ k < hi) v l
theorem Own.of {W : World} {lo : Nat} {ok : Nat → Prop} {v : Value} {l : List Int} (h : Kd.R (Kd.int .i64) 3 W lo ok v l) : Own W lo W.heap.size v l := Kd.R_mono (Kd.R_bound h) (fun k hk => ⟨hk.2.1, hk.2.2.1⟩)
theorem Own.keep {W W' : World} {lo hi : Nat} {v : Value} {l : List Int} (h : Own W lo hi v l) (hk : KeepBut W W' g none) (hg : g < lo) : Own W' lo hi v l := Kd.R_keep h hk (fun k hk => by omega)
theorem Own.low {W W' : World} {lo hi B : Nat} {v : Value} {l : List Int} (h : Own W lo hi v l) (hb : Below B W W') (hB : hi ≤ B) : Own W' lo hi v l := Kd.R_step h (fun k hk _ => hb.block k (by omega))
theorem Own.alloc {W : World} {lo hi : Nat} {v : Value} {l : List Int} (h : Own W lo hi v l) (o : Obj) : Own (W.alloc o) lo hi v l := Kd.R_alloc h o
theorem Own.drew {W : World} {lo hi : Nat} {v : Value} {l : List Int} (h : Own W lo hi v l) : Own W.drew lo hi v l := Kd.R_drew h
theorem Own.drewN {W : World} {lo hi : Nat} {v : Value} {l : List Int} (h : Own W lo hi v l) (n : Nat) : Own (W.drewN n) lo hi v l := Kd.R_drewN h n
theorem Own.far {W : World} {lo hi : Nat} {v : Value} {l : List Int} (h : Own W lo hi v l) {p : Addr} (hp : p.block < lo) (u : Value) : Own (W.setCell p u) lo hi v l := Kd.R_far h (fun k hk => by omega) u
/-! Draws of lit buttons. -/
def LitP (w0 w : World) (g : Nat) (a : Int) (e : Ending) (w' : World) : Prop := ∃ (v : Value) (l : List Int) (own : Bool) (s : Int), e = .returned (.tuple #[.agg #[v, .bool own], .int .i64 s]) ∧ Kd.R (Kd.int .i64) 3 w' w.heap.size (fun _ => True) v l ∧ l.length ≤ 17 ∧ Cur w0 g a w' ∧ KeepBut w w' g none
set_option maxRecDepth 100000 in
set_option maxHeartbeats 8000000 in
theorem lit_any (n : Int) (w : World) (hc : Cur w0 g a w) (ha : a ≤ 144115188075855872) (hn : 1 ≤ n) (hn1 : n ≤ 16) : Calls Try.prog 49 #[.pointer (some ⟨g, 0, none⟩), .int .i64 n] w (LitP w0 w g (a + 600)) := by
  have hu := Try.underlying26
  have hgl := hc.lt
  have hXg : w.heap.size ≠ g := by omega
  have hsz := hc.size
  have HC := Aside0.mk (hc.alloc (.cells #[.slice none 0 0, .bool false] 26))
  have HK := Aside0.mk (keep_alloc (KeepBut.refl w g none) (.cells #[.slice none 0 0, .bool false] 26))
  have X := Aside0.mk (blk_new w (.cells #[.slice none 0 0, .bool false] 26))
  clear hc
  go_enter Try.func49, Try.ntmps49
  go_upto_region 2 with (go_at_call 61; (with_reducible refine (graph_any n _ HC.out (by omega) hn hn1).mono ?_); rintro e w2 ⟨z, l, own, rfl, hr, hll, hc, hk⟩; obtain ⟨A2, c2, rfl⟩ := Kd.R_slice hr; have hzx := blk_lt X.out; have R := Aside0.mk hr; have nK := Aside0.mk (HK.out.trans hk (.inl rfl)); have nX := Aside0.mk (hk.blk X.out hXg (by simp)); have hYG := hc.lt; clear HC X HK hk hr; have HC := Aside0.mk hc; have X := nX; have HK := nK; clear hc nX nK)
  have hRg : g < (w.alloc (.cells #[.slice none 0 0, .bool false] 26)).heap.size := by simp; omega
  have hX2 : w.heap.size < (w.alloc (.cells #[.slice none 0 0, .bool false] 26)).heap.size := by simp
  have hY2 := blk_lt X.out
  have HK2 := Aside0.mk (keep_alloc HK.out (.cells #[.slice A2 l.length c2, .bool own] 26))
  have nY := Aside0.mk (blk_new w2 (.cells #[.slice A2 l.length c2, .bool own] 26)); have nC := Aside0.mk (HC.out.alloc (.cells #[.slice A2 l.length c2, .bool own] 26)); have nX := Aside0.mk (blk_alloc X.out (.cells #[.slice A2 l.length c2, .bool own] 26)); have nR := Aside0.mk (Kd.R_alloc R.out (.cells #[.slice A2 l.length c2, .bool own] 26)); clear HC X R; generalize World.alloc w2 (.cells #[.slice A2 l.length c2, .bool own] 26) = w3 at *; have HC := nC; clear nC; have hYg : w2.heap.size ≠ _ := Nat.ne_of_gt hYG; have Y := nY; clear nY; have X := nX; clear nX; have R := nR; clear nR
  (try clear hY0 hY1 fY0 fY1); have hY0 := (blk_cell Y.out 0).trans rfl; have hY1 := (blk_cell Y.out 1).trans rfl; have fY0 := blk_frozen Y.out 0; have fY1 := blk_frozen Y.out 1
  go_region_held3 (fun w' => w'.cell? ⟨w2.heap.size, 0, none⟩ = some (.slice A2 l.length c2) ∧ w'.cell? ⟨w2.heap.size, 1, none⟩ = some (.bool own)) (first | exact ⟨hY0, hY1⟩ | exact ⟨cell_far2 hY0 (by simp only; omega), cell_far2 hY1 (by simp only; omega)⟩ | exact ⟨cell_far2 (cell_far2 hY0 (by simp only; omega)) (by simp only; omega), cell_far2 (cell_far2 hY1 (by simp only; omega)) (by simp only; omega)⟩ | go_keep) ((go_at_call 55; (with_reducible refine (set_any own _ HC.out.drew (by omega) (by omega)).mono ?_); rintro e w4 ⟨a4, rfl, hc, hk⟩; have nK := Aside0.mk ((keep_drew HK2.out).trans hk (.inl rfl)); clear HK2; have HK2 := nK; clear nK; have nC := Aside0.mk hc; have nX := Aside0.mk (hk.blk (blk_drew X.out) hXg (by simp)); have nY := Aside0.mk (hk.blk (blk_drew Y.out) hYg (by simp)); have nR := Aside0.mk (row_keep (Kd.R_drew R.out) hk hRg); clear hc hk HC X Y R; have HC := nC; clear nC; have X := nX; clear nX; have Y := nY; clear nY; have R := nR; clear nR; (try clear hY0 hY1 fY0 fY1); have hY0 := (blk_cell Y.out 0).trans rfl; have hY1 := (blk_cell Y.out 1).trans rfl; have fY0 := blk_frozen Y.out 0; have fY1 := blk_frozen Y.out 1; (try clear hX0 hX1 fX0 fX1); have hX0 := (blk_cell X.out 0).trans rfl; have hX1 := (blk_cell X.out 1).trans rfl; have fX0 := blk_frozen X.out 0; have fX1 := blk_frozen X.out 1))
  go_wp2
  refine bodyPost_ret (results_ct rfl _ _ w.heap.size 26 _ (0, 0) _ rfl (put2_blk X.out _ _) Try.underlying26 rfl (by kernel_rfl)) rfl ?_
  exact ⟨_, l, own, _, rfl, Kd.R_lower (row_far (row_far R.out (p := ⟨w.heap.size, 0, none⟩) hX2 _) (p := ⟨w.heap.size, 1, none⟩) hX2 _) (by simp), hll, (HC.out.le (by omega)).put2 hsz hXg _ _, keep_put2 HK2.out (Nat.le_refl _) _ _⟩
set_option maxRecDepth 100000 in
set_option maxHeartbeats 8000000 in
theorem DrawReachOf_any {W : World} {v : Value} {l0 : List Int} (h : Rb W v l0) : Calls Try.prog 41 #[v] W (DrawGSP W) := by
  obtain ⟨A, c, rfl, hcl, hr, hx⟩ := h
  have hu := Try.underlying26
  have huc := Try.underlying62
  have HW := Aside0.mk (below_alloc (Below.refl W.heap.size W) (.cells #[.slice none 0 0, .bool false] 26))
  have X := Aside0.mk (blk_new W (.cells #[.slice none 0 0, .bool false] 26))
  have HR0 := Aside0.mk (Kd.C_alloc hr (.cells #[.slice none 0 0, .bool false] 26))
  have HXX := Aside0.mk hx
  clear hr hx hcl
  go_enter Try.func41, Try.ntmps41
  go_upto_region 1 with (fail)
  generalize W.alloc (.cells #[.slice none 0 0, .bool false] 26) = w1 at *
  have HC := Aside0.mk (Cur.new w1 A c l0 HR0.out HXX.out)
  have hXg := Nat.ne_of_lt (blk_lt X.out)
  have hXl := blk_lt X.out
  have hRg : w1.heap.size < (w1.alloc (Obj.cells #[Value.slice A l0.length c, Value.int IntKind.i64 0, Value.int IntKind.u64 0] 62)).heap.size := by simp
  go_wp2_with (go_at_call 49; (with_reducible refine (lit_any 6 _ HC.out (by omega) (by omega) (by omega)).mono ?_); rintro e w2 ⟨z, l, own, s, rfl, hr, hll, hc, hk⟩; obtain ⟨A2, c2, rfl⟩ := Kd.R_slice hr; have hXx := blk_alloc X.out (.cells #[.slice A l0.length c, .int .i64 0, .int .u64 0] 62); have nX := Aside0.mk (hk.blk hXx hXg (by simp)); have R := Aside0.mk hr; clear HC X hk hr hXx; have HC := Aside0.mk hc; have X := nX; clear hc nX; (try clear hX0 hX1 fX0 fX1); have hX0 := (blk_cell X.out 0).trans rfl; have hX1 := (blk_cell X.out 1).trans rfl; have fX0 := blk_frozen X.out 0; have fX1 := blk_frozen X.out 1)
  go_wp2
  refine bodyPost_ret (results_ct rfl _ _ W.heap.size 26 _ (0, 0) _ rfl (put2_blk X.out _ _) Try.underlying26 rfl (by kernel_rfl)) rfl ?_
  exact ⟨_, l, own, _, rfl, ⟨Kd.R_lower (row_far (row_far R.out (p := ⟨W.heap.size, 0, none⟩) (by simp only; omega) _) (p := ⟨W.heap.size, 1, none⟩) (by simp only; omega) _) (by omega), by omega⟩, below_set (below_set (below_step HW.out HC.out.base) (Nat.le_refl _)) (Nat.le_refl _)⟩
set_option maxRecDepth 100000 in
set_option maxHeartbeats 8000000 in
theorem DrawLitMoves_any {W : World} {v : Value} {l0 : List Int} (h : Rb W v l0) : Calls Try.prog 31 #[v] W (DrawGSP W) := by
  obtain ⟨A, c, rfl, hcl, hr, hx⟩ := h
  have hu := Try.underlying26
  have huc := Try.underlying62
  have HW := Aside0.mk (below_alloc (Below.refl W.heap.size W) (.cells #[.slice none 0 0, .bool false] 26))
  have X := Aside0.mk (blk_new W (.cells #[.slice none 0 0, .bool false] 26))
  have HR0 := Aside0.mk (Kd.C_alloc hr (.cells #[.slice none 0 0, .bool false] 26))
  have HXX := Aside0.mk hx
  clear hr hx hcl
  go_enter Try.func31, Try.ntmps31
  go_upto_region 1 with (fail)
  generalize W.alloc (.cells #[.slice none 0 0, .bool false] 26) = w1 at *
  have HC := Aside0.mk (Cur.new w1 A c l0 HR0.out HXX.out)
  have hXg := Nat.ne_of_lt (blk_lt X.out)
  have hXl := blk_lt X.out
  have hRg : w1.heap.size < (w1.alloc (Obj.cells #[Value.slice A l0.length c, Value.int IntKind.i64 0, Value.int IntKind.u64 0] 62)).heap.size := by simp
  go_wp2_with (go_at_call 49; (with_reducible refine (lit_any 9 _ HC.out (by omega) (by omega) (by omega)).mono ?_); rintro e w2 ⟨z, l, own, s, rfl, hr, hll, hc, hk⟩; obtain ⟨A2, c2, rfl⟩ := Kd.R_slice hr; have hXx := blk_alloc X.out (.cells #[.slice A l0.length c, .int .i64 0, .int .u64 0] 62); have nX := Aside0.mk (hk.blk hXx hXg (by simp)); have R := Aside0.mk hr; clear HC X hk hr hXx; have HC := Aside0.mk hc; have X := nX; clear hc nX; (try clear hX0 hX1 fX0 fX1); have hX0 := (blk_cell X.out 0).trans rfl; have hX1 := (blk_cell X.out 1).trans rfl; have fX0 := blk_frozen X.out 0; have fX1 := blk_frozen X.out 1)
  go_wp2
  refine bodyPost_ret (results_ct rfl _ _ W.heap.size 26 _ (0, 0) _ rfl (put2_blk X.out _ _) Try.underlying26 rfl (by kernel_rfl)) rfl ?_
  exact ⟨_, l, own, _, rfl, ⟨Kd.R_lower (row_far (row_far R.out (p := ⟨W.heap.size, 0, none⟩) (by simp only; omega) _) (p := ⟨W.heap.size, 1, none⟩) (by simp only; omega) _) (by omega), by omega⟩, below_set (below_set (below_step HW.out HC.out.base) (Nat.le_refl _)) (Nat.le_refl _)⟩
set_option maxRecDepth 100000 in
set_option maxHeartbeats 8000000 in
theorem DrawFewestLit_any {W : World} {v : Value} {l0 : List Int} (h : Rb W v l0) : Calls Try.prog 15 #[v] W (DrawGSP W) := by
  have hu := Try.underlying26
  have HW := Aside0.mk (below_alloc (Below.refl W.heap.size W) (.cells #[.slice none 0 0, .bool false] 26))
  have X := Aside0.mk (blk_new W (.cells #[.slice none 0 0, .bool false] 26))
  have H := Aside0.mk (h.below HW.out)
  obtain ⟨A, c, rfl, _⟩ := h
  go_enter Try.func15, Try.ntmps15
  go_upto_region 1 with (fail)
  generalize W.alloc (.cells #[.slice none 0 0, .bool false] 26) = w1 at *
  have hXl := blk_lt X.out
  go_wp2_with (go_at_call 41; (with_reducible refine (DrawReachOf_any H.out).mono ?_); rintro e w2 ⟨u, l, own, a, rfl, hr, hb⟩; obtain ⟨A2, c2, rfl⟩ := hr.slice; have R := Aside0.mk hr; have nX := Aside0.mk (blk_below X.out hb); have nW := Aside0.mk (below_step HW.out hb); clear hr hb X HW; have X := nX; have HW := nW; clear nX nW; (try clear hX0 hX1 fX0 fX1); have hX0 := (blk_cell X.out 0).trans rfl; have hX1 := (blk_cell X.out 1).trans rfl; have fX0 := blk_frozen X.out 0; have fX1 := blk_frozen X.out 1)
  refine bodyPost_ret (results_ct rfl _ _ W.heap.size 26 _ (0, 0) _ rfl (put2_blk X.out _ _) Try.underlying26 rfl (by kernel_rfl)) rfl ?_
  exact ⟨_, l, own, _, rfl, ⟨Kd.R_lower (row_far (row_far R.out.1 (p := ⟨W.heap.size, 0, none⟩) hXl _) (p := ⟨W.heap.size, 1, none⟩) hXl _) (Nat.le_of_lt hXl), R.out.2⟩, below_set (below_set HW.out (Nat.le_refl _)) (Nat.le_refl _)⟩

set_option maxRecDepth 100000 in
set_option maxHeartbeats 8000000 in
theorem DrawCountOrbits_any {W : World} {v : Value} {l0 : List Int} (h : Rb W v l0) : Calls Try.prog 34 #[v] W (DrawGP W) := by
  obtain ⟨A, c, rfl, hcl, hr, hx⟩ := h
  have hu := Try.underlying26
  have huc := Try.underlying62
  have HW := Aside0.mk (below_alloc (Below.refl W.heap.size W) (.cells #[.slice none 0 0, .bool false] 26))
  have X := Aside0.mk (blk_new W (.cells #[.slice none 0 0, .bool false] 26))
  have HR0 := Aside0.mk (Kd.C_alloc hr (.cells #[.slice none 0 0, .bool false] 26))
  have HXX := Aside0.mk hx
  clear hr hx hcl
  go_enter Try.func34, Try.ntmps34
  go_upto_region 1 with (fail)
  generalize W.alloc (.cells #[.slice none 0 0, .bool false] 26) = w1 at *
  have HC := Aside0.mk (Cur.new w1 A c l0 HR0.out HXX.out)
  have hXg := Nat.ne_of_lt (blk_lt X.out)
  have hXl := blk_lt X.out
  have hRg : w1.heap.size < (w1.alloc (Obj.cells #[Value.slice A l0.length c, Value.int IntKind.i64 0, Value.int IntKind.u64 0] 62)).heap.size := by simp
  go_upto_region 2 with (fail)
  have nX := Aside0.mk (blk_alloc X.out (.cells #[.slice A l0.length c, .int .i64 0, .int .u64 0] 62))
  clear X
  have X := nX
  clear nX
  generalize World.alloc w1 (.cells #[.slice A l0.length c, .int .i64 0, .int .u64 0] 62) = w1s at *
  go_wp2_with (first
    | (go_at_call 62; refine (among_lit _ (HC.out.alloc _) (by omega) (C_lit _ [_, _, _, _] (by simp)) (by have h := HC.out.lt; omega) rfl (by simp)).mono ?_; rintro e w2 ⟨x, rfl, hx, hc, hk⟩; have hxr : 1 ≤ x ∧ x ≤ 16 := (by have h := hx.out; simp at h; omega); have nX := Aside0.mk (hk.blk (blk_alloc X.out _) hXg (by simp)); have hW2 := Aside0.mk hk.1; clear HC X hk; have HC := Aside0.mk hc; have X := nX; clear hc nX)
    | (go_at_call 61; (with_reducible refine (graph_any _ _ HC.out (by omega) hxr.1 hxr.2).mono ?_); rintro e w3 ⟨z, l, own, rfl, hr, hll, hc, hk⟩; obtain ⟨A2, c2, rfl⟩ := Kd.R_slice hr; have nX := Aside0.mk (hk.blk X.out hXg (by simp)); have R := Aside0.mk hr; have hW3 := blk_lt X.out; clear HC X hk hr; have HC := Aside0.mk hc; have X := nX; clear hc nX; (try clear hX0 hX1 fX0 fX1); have hX0 := (blk_cell X.out 0).trans rfl; have hX1 := (blk_cell X.out 1).trans rfl; have fX0 := blk_frozen X.out 0; have fX1 := blk_frozen X.out 1))
  go_wp2
  refine bodyPost_ret (results_cell_row rfl _ _ W.heap.size 26 _ (0, 0) _ rfl (put2_blk X.out _ _) Try.underlying26 rfl (by kernel_rfl)) rfl ?_
  exact ⟨_, l, own, rfl, ⟨Kd.R_lower (row_far (row_far R.out (p := ⟨W.heap.size, 0, none⟩) (by simp only; omega) _) (p := ⟨W.heap.size, 1, none⟩) (by simp only; omega) _) (by omega), by omega⟩, below_set (below_set (below_step HW.out HC.out.base) (Nat.le_refl _)) (Nat.le_refl _)⟩
set_option maxRecDepth 100000 in
set_option maxHeartbeats 8000000 in
theorem DrawOrbitSizes_any {W : World} {v : Value} {l0 : List Int} (h : Rb W v l0) : Calls Try.prog 6 #[v] W (DrawGP W) := by
  have hu := Try.underlying26
  have HW := Aside0.mk (below_alloc (Below.refl W.heap.size W) (.cells #[.slice none 0 0, .bool false] 26))
  have X := Aside0.mk (blk_new W (.cells #[.slice none 0 0, .bool false] 26))
  have H := Aside0.mk (h.below HW.out)
  obtain ⟨A, c, rfl, _⟩ := h
  go_enter Try.func6, Try.ntmps6
  go_upto_region 1 with (fail)
  generalize W.alloc (.cells #[.slice none 0 0, .bool false] 26) = w1 at *
  have hXl := blk_lt X.out
  go_wp2_with (go_at_call 34; (with_reducible refine (DrawCountOrbits_any H.out).mono ?_); rintro e w2 ⟨u, l, own, rfl, hr, hb⟩; obtain ⟨A2, c2, rfl⟩ := hr.slice; have R := Aside0.mk hr; have nX := Aside0.mk (blk_below X.out hb); have nW := Aside0.mk (below_step HW.out hb); clear hr hb X HW; have X := nX; have HW := nW; clear nX nW; (try clear hX0 hX1 fX0 fX1); have hX0 := (blk_cell X.out 0).trans rfl; have hX1 := (blk_cell X.out 1).trans rfl; have fX0 := blk_frozen X.out 0; have fX1 := blk_frozen X.out 1)
  refine bodyPost_ret (results_cell_row rfl _ _ W.heap.size 26 _ (0, 0) _ rfl (put2_blk X.out _ _) Try.underlying26 rfl (by kernel_rfl)) rfl ?_
  exact ⟨_, l, own, rfl, ⟨Kd.R_lower (row_far (row_far R.out.1 (p := ⟨W.heap.size, 0, none⟩) hXl _) (p := ⟨W.heap.size, 1, none⟩) hXl _) (Nat.le_of_lt hXl), R.out.2⟩, below_set (below_set HW.out (Nat.le_refl _)) (Nat.le_refl _)⟩

end Go.Proofs.Ytjkijnggjjoheaa.Draw
