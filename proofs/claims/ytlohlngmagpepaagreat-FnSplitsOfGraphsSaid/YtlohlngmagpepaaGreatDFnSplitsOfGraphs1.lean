/- What is drawn for FnSplitsOfGraphs: within bounds, whatever it is. -/
import Derived.Test.YtlohlngmagpepaaGreatPFnSplitsOfGraphsx
import Derived.Test.YtlohlngmagpepaaGreatQFnSplitsOfGraphs0
import Derived.Test.YtlohlngmagpepaaGreatQFnSplitsOfGraphs1
import Derived.Test.YtlohlngmagpepaaGreatM1
import Derived.Test.YtlohlngmagpepaaGreatM40
import Derived.Test.YtlohlngmagpepaaGreatM41
import Derived.Test.YtlohlngmagpepaaGreatM9
import Derived.WalkKit
import Derived.RowKit3
import Derived.Deep.QuietTactic
import Derived.BigQuiet
import Derived.Deep.DeepCutAuto
import Derived.Deep.CutBlock
import Derived.Deep.LoopGhost
import Derived.Outline
import Derived.Deep.DeepFit
import Derived.Test.YtlohlngmagpepaaGreatDFnSplitsOfGraphs0
namespace Go.Proofs.YtlohlngmagpepaaGreat.Draw
open Go.RowKit Go.Proofs.YtlohlngmagpepaaGreat.PFnSplitsOfGraphs Go.Proofs.YtlohlngmagpepaaGreatW.PrintWords Go.Proofs.YtlohlngmagpepaaGreatW.PrintLast Go.Proofs.YtlohlngmagpepaaGreatW.PrintMore Go.Proofs.YtlohlngmagpepaaGreatM Go.Proofs.YtlohlngmagpepaaGreat.Pure
attribute [local go_sem] max2_int min2_int max_two min_two max_three min_three max_four min_four
set_option linter.unusedVariables false
set_option linter.unusedSimpArgs false
variable {w0 w w1 W : World} {g : Nat} {a : Int}
/-! What a law holds: slices that are read, graphs in boxes of its own. -/
/-- The slice v reads as l. -/
def Rd (W : World) (v : Value) (l : List Int) : Prop := ∃ A c, v = .slice A l.length c ∧ l.length ≤ c ∧ Kd.C (Kd.int .i64) W A l.length l ∧ l.length ≤ 1048576
theorem Rd.below {W W' : World} {v : Value} {l : List Int} (h : Rd W v l) (hb : Below W.heap.size W W') : Rd W' v l := by obtain ⟨A, c, e, hc, hr, hl⟩ := h; exact ⟨A, c, e, hc, Kd.C_below hr hb, hl⟩
theorem Rd.alloc {W : World} {v : Value} {l : List Int} (h : Rd W v l) (o : Obj) : Rd (W.alloc o) v l := h.below (below_alloc (Below.refl _ _) o)
theorem Rd.of {W : World} {base : Nat} {ok : Nat → Prop} {v : Value} {l : List Int} (h : Kd.R (Kd.int .i64) 3 W base ok v l) (hl : l.length ≤ 1048576) : Rd W v l := by obtain ⟨A, c, e, hc, hr⟩ := Kd.R_reads h; exact ⟨A, c, e, hc, hr, hl⟩
theorem Rd.len {W : World} {v : Value} {l : List Int} (h : Rd W v l) : l.length ≤ 1048576 := by obtain ⟨A, c, e, hc, hr, hl⟩ := h; exact hl
theorem Rd.cell {W : World} {A : Option Addr} {n c : Nat} {l : List Int} (h : Rd W (.slice A n c) l) (i : Int) (h0 : 0 ≤ i) (h1 : i < n) : ∃ ad, A = some ad ∧ W.cell? (ad.add i.toNat) = some (.int .i64 (rd l i)) := by
  obtain ⟨B, c', e, hc, hr, hl⟩ := h
  injection e with e1 e2 e3
  subst e1 e2
  exact Kd.at_int hr i h0 h1
theorem Rd.slice {W : World} {v : Value} {l : List Int} (h : Rd W v l) : ∃ A c, v = .slice A l.length c := by obtain ⟨A, c, e, _⟩ := h; exact ⟨A, c, e⟩
theorem add_zero_ (a : Addr) : a.add 0 = a := by cases a; simp [Addr.add]
theorem Rd.cellN {W : World} {A : Addr} {n c : Nat} {l : List Int} (h : Rd W (.slice (some A) n c) l) (i : Nat) (h1 : i < n) : W.cell? (A.add i) = some (.int .i64 (rd l (i : Int))) := by
  obtain ⟨ad, e, h⟩ := h.cell (i : Int) (by omega) (by omega)
  injection e with e
  rw [e]
  exact h
theorem Rd.cell0 {W : World} {A : Option Addr} {n c : Nat} {l : List Int} (h : Rd W (.slice A n c) l) (h1 : 0 < n) {x : Int} (hx : rd l 0 = x) : ∃ ad, A = some ad ∧ W.cell? ad = some (.int .i64 x) := by
  obtain ⟨ad, e, h⟩ := h.cell 0 (by omega) (by omega)
  exact ⟨ad, e, by rw [← hx, ← h]; exact congrArg _ (add_zero_ ad).symm⟩
theorem natbeq (a b : Nat) : ((a : Int) == (b : Int)) = (a == b) := by rw [Bool.eq_iff_iff, beq_iff_eq, beq_iff_eq]; omega
/-- A graph in a box. -/
def Gbox (W : World) (b : Nat) (v : Value) (own : Bool) (l : List Int) : Prop := W.heap[b]? = some (.cells #[v, .bool own] 26 (0, 0)) ∧ Rd W v l
theorem Gbox.below {W W' : World} {b : Nat} {v : Value} {own : Bool} {l : List Int} (h : Gbox W b v own l) (hb : Below W.heap.size W W') : Gbox W' b v own l := ⟨blk_below h.1 hb, h.2.below hb⟩
theorem Gbox.rd {W : World} {b : Nat} {v : Value} {own : Bool} {l : List Int} (h : Gbox W b v own l) : Rd W v l := h.2
theorem Gbox.cells {W : World} {b : Nat} {v : Value} {own : Bool} {l : List Int} (h : Gbox W b v own l) : W.cell? ⟨b, 0, none⟩ = some v ∧ W.cell? ⟨b, 1, none⟩ = some (.bool own) := ⟨(blk_cell h.1 0).trans rfl, (blk_cell h.1 1).trans rfl⟩
theorem Gbox.new {W W' : World} {v : Value} {own : Bool} {l : List Int} (h : Rd W v l) (hb : Below (W.alloc (.cells #[v, .bool own] 26)).heap.size (W.alloc (.cells #[v, .bool own] 26)) W') : Gbox W' W.heap.size v own l :=
  ⟨blk_below (blk_new W _) hb, (h.alloc _).below hb⟩
/-- Bytes that came in. -/
def Rb (W : World) (v : Value) (l : List Int) : Prop := ∃ A c, v = .slice A l.length c ∧ l.length ≤ c ∧ Kd.C (Kd.int .u8) W A l.length l ∧ ∀ x ∈ l, 0 ≤ x ∧ x ≤ 255
theorem byte_wf {x : Int} (h : (Lit.int .u8 x).wf = true) : 0 ≤ x ∧ x ≤ 255 := by
  simp [Lit.wf, IntKind.min, IntKind.max, IntKind.bits, IntKind.signed] at h
  omega
theorem Rb.row {W : World} {a : Option Addr} {len cap : Nat} {z : List Int} (h : YtlohlngmagpepaaGreatGr.IsRow .u8 W a len cap z) : ∃ l, Rb W (.slice a len cap) l := by
  obtain ⟨l, rfl, hr, hm, hw, hc⟩ := ReadsInt.ofRowC h
  exact ⟨l, a, cap, rfl, hc, Kd.C_of_reads (d := (0 : Int)) (h1 := fun _ => rfl) hr, fun x hx => byte_wf (hw x hx)⟩
theorem Rb.below {W W' : World} {v : Value} {l : List Int} (h : Rb W v l) (hb : Below W.heap.size W W') : Rb W' v l := by obtain ⟨A, c, e, hc, hr, hx⟩ := h; exact ⟨A, c, e, hc, Kd.C_below hr hb, hx⟩
theorem big_any {W : World} {v v2 : Value} {l l2 : List Int} (h : Rb W v l) (h2 : Rb W v2 l2) : Calls Tryz.prog 6 #[v, v2] W fun e W' => ∃ (n : Nat) (b : Bool), e = .returned (.bool b) ∧ W' = W.drewN n := by
  obtain ⟨A, c, rfl, hc, hr, _⟩ := h
  obtain ⟨A2, c2, rfl, hc2, hr2, _⟩ := h2
  obtain ⟨b, e⟩ : ∃ b, laws_big.f l l2 = some b := by unfold laws_big.f; split <;> exact ⟨_, rfl⟩
  exact (laws_big.calls A c l A2 c2 l2 b W hr hc hr2 hc2 e).mono fun _ _ ⟨he, n, hn⟩ => ⟨n, b, he, hn⟩
/-! Rows behind a state's calls. -/
theorem row_keep {W W' : World} {base : Nat} {ok : Nat → Prop} {v : Value} {l : List Int} (h : Kd.R (Kd.int .i64) 3 W base ok v l) (hk : KeepBut W W' g none) (hg : g < base) : Kd.R (Kd.int .i64) 3 W' base (fun _ => True) v l :=
  Kd.R_mono (Kd.R_keep (Kd.R_bound h) hk (fun k hk => by have := hk.2.1; omega)) (fun _ _ => trivial)
theorem row_far {W : World} {base : Nat} {ok : Nat → Prop} {v : Value} {l : List Int} (h : Kd.R (Kd.int .i64) 3 W base ok v l) {p : Addr} (hp : p.block < base) (u : Value) : Kd.R (Kd.int .i64) 3 (W.setCell p u) base (fun _ => True) v l :=
  Kd.R_mono (Kd.R_far (Kd.R_bound h) (fun k hk => by have := hk.2.1; omega) u) (fun _ _ => trivial)
/-- A slice of the call's own, in new memory. -/
def Nw (W W' : World) (u : Value) (m : List Int) : Prop := Kd.R (Kd.int .i64) 3 W' W.heap.size (fun _ => True) u m ∧ m.length ≤ 1048576
theorem Nw.rd {W W' : World} {u : Value} {m : List Int} (h : Nw W W' u m) : Rd W' u m := Rd.of h.1 h.2
theorem Nw.slice {W W' : World} {u : Value} {m : List Int} (h : Nw W W' u m) : ∃ A c, u = .slice A m.length c := h.rd.slice
theorem Cur.keepB {w0 w w1 : World} {g : Nat} {a : Int} (h : Cur w0 g a w) (hb : Below w.heap.size w w1) : KeepBut w w1 g none := KeepBut.of_below hb g none
theorem Cur.dnB {w0 w : World} {g : Nat} {a : Int} (h : Cur w0 g a w) (n : Nat) : Below w.heap.size w (w.drewN n) := pw_below_drewN (Below.refl _ _) n
def DrawGP (W : World) (e : Ending) (W' : World) : Prop := ∃ (u : Value) (m : List Int) (own : Bool), e = .returned (.agg #[u, .bool own]) ∧ Nw W W' u m ∧ Below W.heap.size W W'
def DrawGSP (W : World) (e : Ending) (W' : World) : Prop := ∃ (u : Value) (m : List Int) (own : Bool) (a : Int), e = .returned (.tuple #[.agg #[u, .bool own], .int .i64 a]) ∧ Nw W W' u m ∧ Below W.heap.size W W'
def DrawGSSP (W : World) (e : Ending) (W' : World) : Prop := ∃ (u : Value) (m : List Int) (own : Bool) (a b : Int), e = .returned (.tuple #[.agg #[u, .bool own], .int .i64 a, .int .i64 b]) ∧ Nw W W' u m ∧ Below W.heap.size W W'
def DrawGSWP (W : World) (e : Ending) (W' : World) : Prop := ∃ (u : Value) (m : List Int) (own : Bool) (a : Int) (u2 : Value) (m2 : List Int), e = .returned (.tuple #[.agg #[u, .bool own], .int .i64 a, u2]) ∧ Nw W W' u m ∧ Nw W W' u2 m2 ∧ Below W.heap.size W W'
/-- A row of its own, in blocks from lo on below hi. -/
def Own (W : World) (lo hi : Nat) (v : Value) (l : List Int) : Prop := Kd.R (Kd.int .i64) 3 W lo (fun k => lo ≤ k ∧ k < hi) v l
theorem Own.of {W : World} {lo : Nat} {ok : Nat → Prop} {v : Value} {l : List Int} (h : Kd.R (Kd.int .i64) 3 W lo ok v l) : Own W lo W.heap.size v l := Kd.R_mono (Kd.R_bound h) (fun k hk => ⟨hk.2.1, hk.2.2.1⟩)
theorem Own.rd {W : World} {lo hi : Nat} {v : Value} {l : List Int} (h : Own W lo hi v l) (hl : l.length ≤ 1048576) : Rd W v l := Rd.of (show Kd.R (Kd.int .i64) 3 W lo (fun k => lo ≤ k ∧ k < hi) v l from h) hl
theorem Own.keep {W W' : World} {lo hi : Nat} {v : Value} {l : List Int} (h : Own W lo hi v l) (hk : KeepBut W W' g none) (hg : g < lo) : Own W' lo hi v l := Kd.R_keep h hk (fun k hk => by omega)
theorem Own.low {W W' : World} {lo hi B : Nat} {v : Value} {l : List Int} (h : Own W lo hi v l) (hb : Below B W W') (hB : hi ≤ B) : Own W' lo hi v l := Kd.R_step h (fun k hk _ => hb.block k (by omega))
theorem Own.alloc {W : World} {lo hi : Nat} {v : Value} {l : List Int} (h : Own W lo hi v l) (o : Obj) : Own (W.alloc o) lo hi v l := Kd.R_alloc h o
theorem Own.drew {W : World} {lo hi : Nat} {v : Value} {l : List Int} (h : Own W lo hi v l) : Own W.drew lo hi v l := Kd.R_drew h
theorem Own.drewN {W : World} {lo hi : Nat} {v : Value} {l : List Int} (h : Own W lo hi v l) (n : Nat) : Own (W.drewN n) lo hi v l := Kd.R_drewN h n
theorem Own.far {W : World} {lo hi : Nat} {v : Value} {l : List Int} (h : Own W lo hi v l) {p : Addr} (hp : p.block < lo) (u : Value) : Own (W.setCell p u) lo hi v l := Kd.R_far h (fun k hk => by omega) u
end Go.Proofs.YtlohlngmagpepaaGreat.Draw
