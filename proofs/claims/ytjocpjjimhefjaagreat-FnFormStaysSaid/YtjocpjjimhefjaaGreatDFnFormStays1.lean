/- What is drawn for FnFormStays: within bounds, whatever it is. -/
import Derived.Test.YtjocpjjimhefjaaGreatPFnFormStaysx
import Derived.Test.YtjocpjjimhefjaaGreatQFnFormStays0
import Derived.Test.YtjocpjjimhefjaaGreatQFnFormStays1
import Derived.Test.YtjocpjjimhefjaaGreatM1
import Derived.Test.YtjocpjjimhefjaaGreatM20
import Derived.WalkKit
import Derived.RowKit3
import Derived.Deep.QuietTactic
import Derived.BigQuiet
import Derived.Deep.DeepCutAuto
import Derived.Deep.CutBlock
import Derived.Deep.LoopGhost
import Derived.Outline
import Derived.Deep.DeepFit
import Derived.Test.YtjocpjjimhefjaaGreatDFnFormStays0
namespace Go.Proofs.YtjocpjjimhefjaaGreat.Draw
open Go.RowKit Go.Proofs.YtjocpjjimhefjaaGreat.PFnFormStays Go.Proofs.YtjocpjjimhefjaaGreatW.PrintWords Go.Proofs.YtjocpjjimhefjaaGreatW.PrintLast Go.Proofs.YtjocpjjimhefjaaGreatW.PrintMore Go.Proofs.YtjocpjjimhefjaaGreatM Go.Proofs.YtjocpjjimhefjaaGreat.Pure
attribute [local go_sem] max2_int min2_int max_two min_two max_three min_three max_four min_four
set_option linter.unusedVariables false
set_option linter.unusedSimpArgs false
variable {w0 w w1 W : World} {g : Nat} {a : Int}
def Rd (W : World) (v : Value) (l : List Int) : Prop := ∃ A c, v = .slice A l.length c ∧ l.length ≤ c ∧ Kd.C (Kd.int .i64) W A l.length l ∧ l.length ≤ 1048576
theorem Rd.below {W W' : World} {v : Value} {l : List Int} (h : Rd W v l) (hb : Below W.heap.size W W') : Rd W' v l := by obtain ⟨A, c, e, hc, hr, hl⟩ := h; exact ⟨A, c, e, hc, Kd.C_below hr hb, hl⟩
theorem Rd.alloc {W : World} {v : Value} {l : List Int} (h : Rd W v l) (o : Obj) : Rd (W.alloc o) v l := h.below (below_alloc (Below.refl _ _) o)
theorem Rd.of {W : World} {base : Nat} {ok : Nat → Prop} {v : Value} {l : List Int} (h : Kd.R (Kd.int .i64) 3 W base ok v l) (hl : l.length ≤ 1048576) : Rd W v l := by obtain ⟨A, c, e, hc, hr⟩ := Kd.R_reads h; exact ⟨A, c, e, hc, hr, hl⟩
theorem Rd.len {W : World} {v : Value} {l : List Int} (h : Rd W v l) : l.length ≤ 1048576 := by obtain ⟨A, c, e, hc, hr, hl⟩ := h; exact hl
theorem Rd.cell {W : World} {A : Option Addr} {n c : Nat} {l : List Int} (h : Rd W (.slice A n c) l) (i : Int) (h0 : 0 ≤ i) (h1 : i < n) : ∃ ad, A = some ad ∧ W.cell? (ad.add i.toNat) = some (.int .i64 (rd l i)) := by
  obtain ⟨B, c', e, hc, hr, hl⟩ := h
  injection e with e1 e2 e3
  subst e1 e2
  exact Kd.at_int hr i h0 h1
theorem Rd.slice {W : World} {v : Value} {l : List Int} (h : Rd W v l) : ∃ A c, v = .slice A l.length c := by obtain ⟨A, c, e, _⟩ := h; exact ⟨A, c, e⟩
theorem Rd.cellN {W : World} {A : Addr} {n c : Nat} {l : List Int} (h : Rd W (.slice (some A) n c) l) (i : Nat) (h1 : i < n) : W.cell? (A.add i) = some (.int .i64 (rd l (i : Int))) := by
  obtain ⟨ad, e, h⟩ := h.cell (i : Int) (by omega) (by omega)
  injection e with e
  rw [e]
  exact h
def Gbox (W : World) (b : Nat) (v : Value) (own : Bool) (l : List Int) : Prop := W.heap[b]? = some (.cells #[v, .bool own] 26 (0, 0)) ∧ Rd W v l
theorem Gbox.below {W W' : World} {b : Nat} {v : Value} {own : Bool} {l : List Int} (h : Gbox W b v own l) (hb : Below W.heap.size W W') : Gbox W' b v own l := ⟨blk_below h.1 hb, h.2.below hb⟩
theorem Gbox.rd {W : World} {b : Nat} {v : Value} {own : Bool} {l : List Int} (h : Gbox W b v own l) : Rd W v l := h.2
theorem Gbox.cells {W : World} {b : Nat} {v : Value} {own : Bool} {l : List Int} (h : Gbox W b v own l) : W.cell? ⟨b, 0, none⟩ = some v ∧ W.cell? ⟨b, 1, none⟩ = some (.bool own) := ⟨(blk_cell h.1 0).trans rfl, (blk_cell h.1 1).trans rfl⟩
theorem Gbox.new {W W' : World} {v : Value} {own : Bool} {l : List Int} (h : Rd W v l) (hb : Below (W.alloc (.cells #[v, .bool own] 26)).heap.size (W.alloc (.cells #[v, .bool own] 26)) W') : Gbox W' W.heap.size v own l :=
  ⟨blk_below (blk_new W _) hb, (h.alloc _).below hb⟩
def Rb (W : World) (v : Value) (l : List Int) : Prop := ∃ A c, v = .slice A l.length c ∧ l.length ≤ c ∧ Kd.C (Kd.int .u8) W A l.length l ∧ ∀ x ∈ l, 0 ≤ x ∧ x ≤ 255
theorem byte_wf {x : Int} (h : (Lit.int .u8 x).wf = true) : 0 ≤ x ∧ x ≤ 255 := by
  simp [Lit.wf, IntKind.min, IntKind.max, IntKind.bits, IntKind.signed] at h
  omega
theorem Rb.row {W : World} {a : Option Addr} {len cap : Nat} {z : List Int} (h : YtjocpjjimhefjaaGreatGr.IsRow .u8 W a len cap z) : ∃ l, Rb W (.slice a len cap) l := by
  obtain ⟨l, rfl, hr, hm, hw, hc⟩ := ReadsInt.ofRowC h
  exact ⟨l, a, cap, rfl, hc, Kd.C_of_reads (d := (0 : Int)) (h1 := fun _ => rfl) hr, fun x hx => byte_wf (hw x hx)⟩
theorem Rb.below {W W' : World} {v : Value} {l : List Int} (h : Rb W v l) (hb : Below W.heap.size W W') : Rb W' v l := by obtain ⟨A, c, e, hc, hr, hx⟩ := h; exact ⟨A, c, e, hc, Kd.C_below hr hb, hx⟩
theorem big_any {W : World} {v v2 : Value} {l l2 : List Int} (h : Rb W v l) (h2 : Rb W v2 l2) : Calls Tryz.prog 4 #[v, v2] W fun e W' => ∃ (n : Nat) (b : Bool), e = .returned (.bool b) ∧ W' = W.drewN n := by
  obtain ⟨A, c, rfl, hc, hr, _⟩ := h
  obtain ⟨A2, c2, rfl, hc2, hr2, _⟩ := h2
  obtain ⟨b, e⟩ : ∃ b, laws_big.f l l2 = some b := by unfold laws_big.f; split <;> exact ⟨_, rfl⟩
  exact (laws_big.calls A c l A2 c2 l2 b W hr hc hr2 hc2 e).mono fun _ _ ⟨he, n, hn⟩ => ⟨n, b, he, hn⟩
theorem row_keep {W W' : World} {base : Nat} {ok : Nat → Prop} {v : Value} {l : List Int} (h : Kd.R (Kd.int .i64) 3 W base ok v l) (hk : KeepBut W W' g none) (hg : g < base) : Kd.R (Kd.int .i64) 3 W' base (fun _ => True) v l :=
  Kd.R_mono (Kd.R_keep (Kd.R_bound h) hk (fun k hk => by have := hk.2.1; omega)) (fun _ _ => trivial)
theorem row_far {W : World} {base : Nat} {ok : Nat → Prop} {v : Value} {l : List Int} (h : Kd.R (Kd.int .i64) 3 W base ok v l) {p : Addr} (hp : p.block < base) (u : Value) : Kd.R (Kd.int .i64) 3 (W.setCell p u) base (fun _ => True) v l :=
  Kd.R_mono (Kd.R_far (Kd.R_bound h) (fun k hk => by have := hk.2.1; omega) u) (fun _ _ => trivial)
def Nw (W W' : World) (u : Value) (m : List Int) : Prop := Kd.R (Kd.int .i64) 3 W' W.heap.size (fun _ => True) u m ∧ m.length ≤ 1048576
theorem Nw.rd {W W' : World} {u : Value} {m : List Int} (h : Nw W W' u m) : Rd W' u m := Rd.of h.1 h.2
theorem Nw.slice {W W' : World} {u : Value} {m : List Int} (h : Nw W W' u m) : ∃ A c, u = .slice A m.length c := h.rd.slice
theorem Cur.keepB {w0 w w1 : World} {g : Nat} {a : Int} (h : Cur w0 g a w) (hb : Below w.heap.size w w1) : KeepBut w w1 g none := KeepBut.of_below hb g none
theorem Cur.dnB {w0 w : World} {g : Nat} {a : Int} (h : Cur w0 g a w) (n : Nat) : Below w.heap.size w (w.drewN n) := pw_below_drewN (Below.refl _ _) n
def DrawGP (W : World) (e : Ending) (W' : World) : Prop := ∃ (u : Value) (m : List Int) (own : Bool), e = .returned (.agg #[u, .bool own]) ∧ Nw W W' u m ∧ Below W.heap.size W W'
def DrawGSP (W : World) (e : Ending) (W' : World) : Prop := ∃ (u : Value) (m : List Int) (own : Bool) (a : Int), e = .returned (.tuple #[.agg #[u, .bool own], .int .i64 a]) ∧ Nw W W' u m ∧ Below W.heap.size W W'
def DrawGSSP (W : World) (e : Ending) (W' : World) : Prop := ∃ (u : Value) (m : List Int) (own : Bool) (a b : Int), e = .returned (.tuple #[.agg #[u, .bool own], .int .i64 a, .int .i64 b]) ∧ Nw W W' u m ∧ Below W.heap.size W W'
def DrawGSWP (W : World) (e : Ending) (W' : World) : Prop := ∃ (u : Value) (m : List Int) (own : Bool) (a : Int) (u2 : Value) (m2 : List Int), e = .returned (.tuple #[.agg #[u, .bool own], .int .i64 a, u2]) ∧ Nw W W' u m ∧ Nw W W' u2 m2 ∧ Below W.heap.size W W'
def Own (W : World) (lo hi : Nat) (v : Value) (l : List Int) : Prop := Kd.R (Kd.int .i64) 3 W lo (fun k => lo ≤ k ∧ k < hi) v l
theorem Own.of {W : World} {lo : Nat} {ok : Nat → Prop} {v : Value} {l : List Int} (h : Kd.R (Kd.int .i64) 3 W lo ok v l) : Own W lo W.heap.size v l := Kd.R_mono (Kd.R_bound h) (fun k hk => ⟨hk.2.1, hk.2.2.1⟩)
theorem Own.rd {W : World} {lo hi : Nat} {v : Value} {l : List Int} (h : Own W lo hi v l) (hl : l.length ≤ 1048576) : Rd W v l := Rd.of (show Kd.R (Kd.int .i64) 3 W lo (fun k => lo ≤ k ∧ k < hi) v l from h) hl
theorem Own.keep {W W' : World} {lo hi : Nat} {v : Value} {l : List Int} (h : Own W lo hi v l) (hk : KeepBut W W' g none) (hg : g < lo) : Own W' lo hi v l := Kd.R_keep h hk (fun k hk => by omega)
theorem Own.low {W W' : World} {lo hi B : Nat} {v : Value} {l : List Int} (h : Own W lo hi v l) (hb : Below B W W') (hB : hi ≤ B) : Own W' lo hi v l := Kd.R_step h (fun k hk _ => hb.block k (by omega))
theorem Own.alloc {W : World} {lo hi : Nat} {v : Value} {l : List Int} (h : Own W lo hi v l) (o : Obj) : Own (W.alloc o) lo hi v l := Kd.R_alloc h o
theorem Own.drew {W : World} {lo hi : Nat} {v : Value} {l : List Int} (h : Own W lo hi v l) : Own W.drew lo hi v l := Kd.R_drew h
theorem Own.drewN {W : World} {lo hi : Nat} {v : Value} {l : List Int} (h : Own W lo hi v l) (n : Nat) : Own (W.drewN n) lo hi v l := Kd.R_drewN h n
theorem Own.far {W : World} {lo hi : Nat} {v : Value} {l : List Int} (h : Own W lo hi v l) {p : Addr} (hp : p.block < lo) (u : Value) : Own (W.setCell p u) lo hi v l := Kd.R_far h (fun k hk => by omega) u
def lenV (v : Value) : Nat := match v with | .slice _ n _ => n | _ => 0
def Word7P (w0 w : World) (g : Nat) (a : Int) (e : Ending) (w' : World) : Prop := ∃ (u : Value) (m : List Int), e = .returned u ∧ Kd.R (Kd.int .i64) 3 w' w.heap.size (fun _ => True) u m ∧ m.length ≤ 400 ∧ Cur w0 g a w' ∧ KeepBut w w' g none
set_option maxRecDepth 100000 in
set_option maxHeartbeats 8000000 in
theorem word7_any {A : Option Addr} {c : Nat} {l : List Int} (own : Bool) (w : World) (hc : Cur w0 g a w) (ha : a ≤ 144115188075855872) (hl : (l.length : Int) ≤ 9223372036854775807) : Calls Tryz.prog 40 #[.pointer (some ⟨g, 0, none⟩), .agg #[.slice A l.length c, .bool own]] w (Word7P w0 w g (a + 1000)) := by
  have hu := Tryz.underlying26
  have hgl := hc.lt
  have hw0 : w0.heap.size ≤ w.heap.size := hc.base.size
  have hVg : g < w.heap.size := hgl
  have HC := Aside0.mk (hc.alloc (.cells #[.slice A l.length c, .bool own] 26))
  have HK := Aside0.mk (keep_alloc (KeepBut.refl w g none) (.cells #[.slice A l.length c, .bool own] 26))
  have X := Aside0.mk (blk_new w (.cells #[.slice A l.length c, .bool own] 26))
  have hXg : w.heap.size ≠ g := by omega
  have hS : w.heap.size + 1 ≤ (w.alloc (.cells #[.slice A l.length c, .bool own] 26)).heap.size := by simp
  clear hc
  go_enter Tryz.func40, Tryz.ntmps40
  go_upto_region 1 with (fail)
  generalize w.alloc (.cells #[.slice A l.length c, .bool own] 26) = w1 at *
  go_upto_region 3 with (go_at_call 69; refine (among_lit _ (HC.out.alloc _) (by omega) (C_lit _ [_, _, _, _] (by simp)) (by have h := HC.out.lt; omega) rfl (by simp)).mono ?_; rintro e w2 ⟨x, rfl, hx, hc, hk⟩; have hx0 : 0 ≤ x ∧ x ≤ 8 := (by have h := hx.out; simp only [List.mem_cons, List.not_mem_nil, or_false] at h; omega); have nHC := Aside0.mk hc; have nHK := Aside0.mk ((keep_alloc HK.out _).trans hk (.inl rfl)); have nX := Aside0.mk (hk.blk (blk_alloc X.out _) hXg (by simp)); have nhS := Nat.le_trans hS (Nat.le_trans (by simp) hk.1); (try clear hX0 hX1 fX0 fX1); (try clear hb); (try clear ho); (try clear hc hk); clear HC HK X hS; have HC := nHC; clear nHC; have HK := nHK; clear nHK; have X := nX; clear nX; have hS := nhS; clear nhS; (try clear hX0 hX1 fX0 fX1); have hX0 := (blk_cell X.out 0).trans rfl; have hX1 := (blk_cell X.out 1).trans rfl; have fX0 := blk_frozen X.out 0; have fX1 := blk_frozen X.out 1)
  go_loopw [5, 6] (fun v5 v6 wr => ∃ (k : Int) (word : List Int), v6 = .int .i64 k ∧ 0 ≤ k ∧ k ≤ 8 ∧ Aside0 ((word.length : Int) + k ≤ 8) ∧ w.heap.size + 1 ≤ wr.heap.size ∧ Aside0 (Cur w0 g (a + 100 - 10 * k) wr) ∧ Aside0 (KeepBut w wr g none) ∧ Aside0 (wr.heap[w.heap.size]? = some (.cells #[.slice A l.length c, .bool own] 26 (0, 0))) ∧ Aside0 (Kd.R (Kd.int .i64) 3 wr (w.heap.size + 1) (fun _ => True) v5 word)) (fun _ v6 _ => (intOf v6).toNat)
  case atStart => exact ⟨x, [], rfl, hx0.1, hx0.2, ⟨by simp; omega⟩, hS, ⟨HC.out.le (by omega)⟩, HK, X, ⟨Kd.R_nil _ _ _ _ _⟩⟩
  case round =>
    clear HC HK X hS hX0 hX1 fX0 fX1 hx
    obtain ⟨k, word, rfl, hk0, hk1, hkw, hS, HC, HK, X, HV⟩ := hrel
    have hVg : g < w.heap.size + 1 := by omega
    by_cases hk : 0 < k
    · (try clear hX0 hX1 fX0 fX1); have hX0 := (blk_cell X.out 0).trans rfl; have hX1 := (blk_cell X.out 1).trans rfl; have fX0 := blk_frozen X.out 0; have fX1 := blk_frozen X.out 1
      go_wp2_with (first
        | (go_at_call 57; (with_reducible refine (most_any _ _ _).mono ?_); rintro e w3 ⟨m, nm, rfl, hm0, hm1, hm, rfl⟩; have hb := HC.out.dnB nm; have hc := HC.out.below hb; have hk := HC.out.keepB hb; have nHC := Aside0.mk hc; have nHK := Aside0.mk ((HK.out).trans hk (.inl rfl)); have nX := Aside0.mk (hk.blk (X.out) hXg (by simp)); have nHV := Aside0.mk (row_keep (HV.out) hk hVg); have nhS := Nat.le_trans hS hk.1; (try clear hX0 hX1 fX0 fX1); (try clear hb); (try clear ho); (try clear hc hk); clear HC HK X HV hS; have HC := nHC; clear nHC; have HK := nHK; clear nHK; have X := nX; clear nX; have HV := nHV; clear nHV; have hS := nhS; clear nhS; (try clear hX0 hX1 fX0 fX1); have hX0 := (blk_cell X.out 0).trans rfl; have hX1 := (blk_cell X.out 1).trans rfl; have fX0 := blk_frozen X.out 0; have fX1 := blk_frozen X.out 1)
        | (go_at_call 56; (with_reducible refine (pick_any _ _ HC.out (by omega)).mono ?_); rintro e w4 ⟨t, rfl, ht0, ht1, ht, hc, hk⟩; have nHC := Aside0.mk hc; have nHK := Aside0.mk ((HK.out).trans hk (.inl rfl)); have nX := Aside0.mk (hk.blk (X.out) hXg (by simp)); have nHV := Aside0.mk (row_keep (HV.out) hk hVg); have nhS := Nat.le_trans hS hk.1; (try clear hb); (try clear ho); (try clear hc hk); clear HC HK X HV hS; have HC := nHC; clear nHC; have HK := nHK; clear nHK; have X := nX; clear nX; have HV := nHV; clear nHV; have hS := nhS; clear nhS)
        | ((with_reducible refine gate_builtin (b := .append) (xs := #[.tmp 14, .tmp 21]) rfl ?_); at_builtin; refine Kd.R_append (Kd.int .i64) (w.heap.size + 1) rfl (.tmp 14) (.tmp 21) 24 3 (.int .i64 0) 8 rfl Tryz.underlying24 info3 rfl (by decide) (by omega) (u5) word (t) [.int .i64 (t)] (fun _ => True) (fun _ => False) rfl (by first | (go_simp; done) | (go_simp; rfl)) ?aP (fun _ hk => hk.elim) (fun _ _ => trivial) HV.out (Below.refl _ _) ?aS ?aL ?_; (case aP => exact rfl); (case aS => exact hS); (case aL => have h := hkw.out; omega); intro v7 w7 ho hb _ _; have nHC := Aside0.mk (HC.out.low hb (by omega) (by omega)); have nHK := Aside0.mk (keep_low HK.out hb (by omega)); have nX := Aside0.mk (blk_low X.out hb (by omega)); have nHV := Aside0.mk ho; have nhS := Nat.le_trans hS hb.size; (try clear hb); (try clear ho); (try clear hc hk); clear HC HK X HV hS; have HC := nHC; clear nHC; have HK := nHK; clear nHK; have X := nX; clear nX; have HV := nHV; clear nHV; have hS := nhS; clear nhS))
      go_roundw
      case rel => exact ⟨k - 1, _, rfl, by omega, by omega, ⟨by have h := hkw.out; simp; omega⟩, hS, ⟨HC.out.le (by omega)⟩, HK, X, HV⟩
      case measure => simp [intOf]; omega
    · clear X
      go_upto_if 24 with (go_at_call 51; (with_reducible refine (one_any _ _ HC.out (by omega)).mono ?_); rintro e w4 ⟨b, rfl, hc, hk⟩; have nHC := Aside0.mk hc; have nHK := Aside0.mk ((HK.out).trans hk (.inl rfl)); have nHV := Aside0.mk (row_keep (HV.out) hk hVg); have nhS := Nat.le_trans hS hk.1; (try clear hb); (try clear ho); (try clear hc hk); clear HC HK HV hS; have HC := nHC; clear nHC; have HK := nHK; clear nHK; have HV := nHV; clear nHV; have hS := nhS; clear nhS)
      go_cut [5] (fun v5 wc => ∃ word : List Int, Aside0 (word.length ≤ 9) ∧ w.heap.size + 1 ≤ wc.heap.size ∧ Aside0 (Cur w0 g (a + 110) wc) ∧ Aside0 (KeepBut w wc g none) ∧ Aside0 (Kd.R (Kd.int .i64) 3 wc (w.heap.size + 1) (fun _ => True) v5 word))
      case first =>
        go_wp2_with (first
          | (go_at_call 69; refine (among_lit _ (HC.out.alloc _) (by omega) (C_lit _ [_, _, _] (by simp)) (by have h := HC.out.lt; omega) rfl (by simp)).mono ?_; rintro e w5 ⟨x2, rfl, hx, hc, hk⟩; have nHC := Aside0.mk hc; have nHK := Aside0.mk ((keep_alloc HK.out _).trans hk (.inl rfl)); have nHV := Aside0.mk (row_keep (Kd.R_alloc HV.out _) hk hVg); have nhS := Nat.le_trans hS (Nat.le_trans (by simp) hk.1); (try clear hb); (try clear ho); (try clear hc hk); clear HC HK HV hS; have HC := nHC; clear nHC; have HK := nHK; clear nHK; have HV := nHV; clear nHV; have hS := nhS; clear nhS)
          | ((with_reducible refine gate_builtin (b := .append) (xs := #[.tmp 25, .tmp 29]) rfl ?_); at_builtin; refine Kd.R_append (Kd.int .i64) (w.heap.size + 1) rfl (.tmp 25) (.tmp 29) 24 3 (.int .i64 0) 8 rfl Tryz.underlying24 info3 rfl (by decide) (by omega) (u5) word (x2) [.int .i64 (x2)] (fun _ => True) (fun _ => False) rfl (by first | (go_simp; done) | (go_simp; rfl)) ?aP (fun _ hk => hk.elim) (fun _ _ => trivial) HV.out (Below.refl _ _) ?aS ?aL ?_; (case aP => exact rfl); (case aS => exact hS); (case aL => have h := hkw.out; omega); intro v7 w7 ho hb _ _; have nHC := Aside0.mk (HC.out.low hb (by omega) (by omega)); have nHK := Aside0.mk (keep_low HK.out hb (by omega)); have nHV := Aside0.mk ho; have nhS := Nat.le_trans hS hb.size; (try clear hb); (try clear ho); (try clear hc hk); clear HC HK HV hS; have HC := nHC; clear nHC; have HK := nHK; clear nHK; have HV := nHV; clear nHV; have hS := nhS; clear nhS))
        · go_meet
          case rel => exact ⟨_, ⟨by have h := hkw.out; simp; omega⟩, hS, ⟨HC.out.le (by omega)⟩, HK, HV⟩
        · go_meet
          case rel => exact ⟨_, ⟨by have h := hkw.out; omega⟩, hS, ⟨HC.out.le (by omega)⟩, HK, HV⟩
      case rest =>
        clear HC HK HV hS hkw
        obtain ⟨word2, hkw, hS, HC, HK, HV⟩ := hcut
        go_upto_if 32 with (go_at_call 51; (with_reducible refine (one_any _ _ HC.out (by omega)).mono ?_); rintro e w4 ⟨b, rfl, hc, hk⟩; have nHC := Aside0.mk hc; have nHK := Aside0.mk ((HK.out).trans hk (.inl rfl)); have nHV := Aside0.mk (row_keep (HV.out) hk hVg); have nhS := Nat.le_trans hS hk.1; (try clear hb); (try clear ho); (try clear hc hk); clear HC HK HV hS; have HC := nHC; clear nHC; have HK := nHK; clear nHK; have HV := nHV; clear nHV; have hS := nhS; clear nhS)
        cases b
        · have hkl := hkw.out
          go_wp2
          go_ret
          exact ⟨_, _, rfl, Kd.R_lower HV.out (by omega), by omega, HC.out.le (by omega), HK.out⟩
        · go_upto_region 9 with (fail)
          go_loopw [5] (fun v5 wr => ∃ word : List Int, Aside0 (word.length ≤ 201) ∧ w.heap.size + 1 ≤ wr.heap.size ∧ Aside0 (Cur w0 g (a + 112 + 2 * word.length) wr) ∧ Aside0 (KeepBut w wr g none) ∧ Aside0 (Kd.R (Kd.int .i64) 3 wr (w.heap.size + 1) (fun _ => True) v5 word)) (fun v5 _ => 300 - lenV v5)
          case atStart => exact ⟨word2, ⟨by have h := hkw.out; omega⟩, hS, ⟨HC.out.le (by omega)⟩, HK, HV⟩
          case round =>
            clear HC HK HV hS hkw
            obtain ⟨word3, hkw, hS, HC, HK, HV⟩ := hrel
            obtain ⟨Av, cv, rfl⟩ := Kd.R_slice HV.out
            have hkl := hkw.out
            go_wp2_with (first
              | (go_at_call 56; (with_reducible refine (pick_any _ _ HC.out (by omega)).mono ?_); rintro e w6 ⟨t, rfl, ht0, ht1, ht, hc, hk⟩; have nHC := Aside0.mk hc; have nHK := Aside0.mk ((HK.out).trans hk (.inl rfl)); have nHV := Aside0.mk (row_keep (HV.out) hk hVg); have nhS := Nat.le_trans hS hk.1; (try clear hb); (try clear ho); (try clear hc hk); clear HC HK HV hS; have HC := nHC; clear nHC; have HK := nHK; clear nHK; have HV := nHV; clear nHV; have hS := nhS; clear nhS)
              | ((with_reducible refine gate_builtin (b := .append) (xs := #[.tmp 39, .tmp 40]) rfl ?_); at_builtin; refine Kd.R_append (Kd.int .i64) (w.heap.size + 1) rfl (.tmp 39) (.tmp 40) 24 3 (.int .i64 0) 8 rfl Tryz.underlying24 info3 rfl (by decide) (by omega) (.slice Av word3.length cv) word3 (0) [.int .i64 (0)] (fun _ => True) (fun _ => False) rfl (by first | (go_simp; done) | (go_simp; rfl)) ?aP (fun _ hk => hk.elim) (fun _ _ => trivial) HV.out (Below.refl _ _) ?aS ?aL ?_; (case aP => exact rfl); (case aS => exact hS); (case aL => have h := hkw.out; omega); intro v7 w7 ho hb _ _; have nHC := Aside0.mk (HC.out.low hb (by omega) (by omega)); have nHK := Aside0.mk (keep_low HK.out hb (by omega)); have nHV := Aside0.mk ho; have nhS := Nat.le_trans hS hb.size; (try clear hb); (try clear ho); (try clear hc hk); clear HC HK HV hS; have HC := nHC; clear nHC; have HK := nHK; clear nHK; have HV := nHV; clear nHV; have hS := nhS; clear nhS))
            · have h := ht.out
              go_roundw
              case rel => exact ⟨_, ⟨by simp; omega⟩, hS, ⟨HC.out.le (by simp; omega)⟩, HK, HV⟩
              case measure =>
                obtain ⟨_, _, rfl⟩ := Kd.R_slice HV.out
                simp [lenV]; omega
            · go_ret
              exact ⟨_, _, rfl, Kd.R_lower HV.out (by omega), by omega, HC.out.le (by omega), HK.out⟩
end Go.Proofs.YtjocpjjimhefjaaGreat.Draw
