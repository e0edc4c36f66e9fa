/- What is drawn for FnCutsAndEvenEdges: within bounds, whatever it is. -/
import Derived.Test.YtlohlngmagpepaaPFnCutsAndEvenEdgesx
import Derived.Test.YtlohlngmagpepaaQFnCutsAndEvenEdges0
import Derived.Test.YtlohlngmagpepaaQFnCutsAndEvenEdges1
import Derived.Test.YtlohlngmagpepaaM1
import Derived.Test.YtlohlngmagpepaaM44
import Derived.WalkKit
import Derived.RowKit3
import Derived.Deep.QuietTactic
import Derived.BigQuiet
import Derived.Deep.DeepCutAuto
import Derived.Deep.CutBlock
import Derived.Deep.LoopGhost
import Derived.Outline
import Derived.Deep.DeepFit
import Derived.Test.YtlohlngmagpepaaDFnCutsAndEvenEdges0
namespace Go.Proofs.Ytlohlngmagpepaa.Draw
open Go.RowKit Go.Proofs.Ytlohlngmagpepaa.PFnCutsAndEvenEdges Go.Proofs.YtlohlngmagpepaaW.PrintWords Go.Proofs.YtlohlngmagpepaaW.PrintLast Go.Proofs.YtlohlngmagpepaaW.PrintMore Go.Proofs.YtlohlngmagpepaaM Go.Proofs.Ytlohlngmagpepaa.Pure
attribute [local go_sem] max2_int min2_int max_two min_two max_three min_three max_four min_four
set_option linter.unusedVariables false
set_option linter.unusedSimpArgs false
variable {w0 w w1 W : World} {g : Nat} {a : Int}
def Rd (W : World) (v : Value) (l : List Int) : Prop := ∃ A c, v = .slice A l.length c ∧ l.length ≤ c ∧ Kd.C (Kd.int .i64) W A l.length l ∧ l.length ≤ 1048576
theorem Rd.below {W W' : World} {v : Value} {l : List Int} (h : Rd W v l) (hb : Below W.heap.size W W') : Rd W' v l := by obtain ⟨A, c, e, hc, hr, hl⟩ := h; exact ⟨A, c, e, hc, Kd.C_below hr hb, hl⟩
theorem Rd.alloc {W : World} {v : Value} {l : List Int} (h : Rd W v l) (o : Obj) : Rd (W.alloc o) v l := h.below (below_alloc (Below.refl _ _) o)
theorem Rd.of {W : World} {base : Nat} {ok : Nat → Prop} {v : Value} {l : List Int} (h : Kd.R (Kd.int .i64) 3 W base ok v l) (hl : l.length ≤ 1048576) : Rd W v l := by obtain ⟨A, c, e, hc, hr⟩ := Kd.R_reads h; exact ⟨A, c, e, hc, hr, hl⟩
theorem Rd.len {W : World} {v : Value} {l : List Int} (h : Rd W v l) : l.length ≤ 1048576 := by obtain ⟨A, c, e, hc, hr, hl⟩ := h; exact hl
theorem Rd.cell {W : World} {A : Option Addr} {n c : Nat} {l : List Int} (h : Rd W (.slice A n c) l) (i : Int) (h0 : 0 ≤ i) (h1 : i < n) : ∃ ad, A = some ad ∧ W.cell? (ad.add i.toNat) = some (.int .i64 (rd l i)) := by
  obtain ⟨B, c', e, hc, hr, hl⟩ := h
  injection e with e1 e2 e3
  subst e1 e2
  exact Kd.at_int hr i h0 h1
theorem Rd.slice {W : World} {v : Value} {l : List Int} (h : Rd W v l) : ∃ A c, v = .slice A l.length c := by obtain ⟨A, c, e, _⟩ := h; exact ⟨A, c, e⟩
theorem add_zero_ (a : Addr) : a.add 0 = a := by cases a; simp [Addr.add]
theorem Rd.cellN {W : World} {A : Addr} {n c : Nat} {l : List Int} (h : Rd W (.slice (some A) n c) l) (i : Nat) (h1 : i < n) : W.cell? (A.add i) = some (.int .i64 (rd l (i : Int))) := by
  obtain ⟨ad, e, h⟩ := h.cell (i : Int) (by omega) (by omega)
  injection e with e
  rw [e]
  exact h
def Gbox (W : World) (b : Nat) (v : Value) (own : Bool) (l : List Int) : Prop := W.heap[b]? = some (.cells #[v, .bool own] 26 (0, 0)) ∧ Rd W v l
theorem Gbox.below {W W' : World} {b : Nat} {v : Value} {own : Bool} {l : List Int} (h : Gbox W b v own l) (hb : Below W.heap.size W W') : Gbox W' b v own l := ⟨blk_below h.1 hb, h.2.below hb⟩
theorem Gbox.rd {W : World} {b : Nat} {v : Value} {own : Bool} {l : List Int} (h : Gbox W b v own l) : Rd W v l := h.2
theorem Gbox.cells {W : World} {b : Nat} {v : Value} {own : Bool} {l : List Int} (h : Gbox W b v own l) : W.cell? ⟨b, 0, none⟩ = some v ∧ W.cell? ⟨b, 1, none⟩ = some (.bool own) := ⟨(blk_cell h.1 0).trans rfl, (blk_cell h.1 1).trans rfl⟩
theorem Gbox.new {W W' : World} {v : Value} {own : Bool} {l : List Int} (h : Rd W v l) (hb : Below (W.alloc (.cells #[v, .bool own] 26)).heap.size (W.alloc (.cells #[v, .bool own] 26)) W') : Gbox W' W.heap.size v own l :=
  ⟨blk_below (blk_new W _) hb, (h.alloc _).below hb⟩
def Rb (W : World) (v : Value) (l : List Int) : Prop := ∃ A c, v = .slice A l.length c ∧ l.length ≤ c ∧ Kd.C (Kd.int .u8) W A l.length l ∧ ∀ x ∈ l, 0 ≤ x ∧ x ≤ 255
theorem byte_wf {x : Int} (h : (Lit.int .u8 x).wf = true) : 0 ≤ x ∧ x ≤ 255 := by
  simp [Lit.wf, IntKind.min, IntKind.max, IntKind.bits, IntKind.signed] at h
  omega
theorem Rb.row {W : World} {a : Option Addr} {len cap : Nat} {z : List Int} (h : YtlohlngmagpepaaGr.IsRow .u8 W a len cap z) : ∃ l, Rb W (.slice a len cap) l := by
  obtain ⟨l, rfl, hr, hm, hw, hc⟩ := ReadsInt.ofRowC h
  exact ⟨l, a, cap, rfl, hc, Kd.C_of_reads (d := (0 : Int)) (h1 := fun _ => rfl) hr, fun x hx => byte_wf (hw x hx)⟩
theorem Rb.below {W W' : World} {v : Value} {l : List Int} (h : Rb W v l) (hb : Below W.heap.size W W') : Rb W' v l := by obtain ⟨A, c, e, hc, hr, hx⟩ := h; exact ⟨A, c, e, hc, Kd.C_below hr hb, hx⟩
theorem big_any {W : World} {v v2 : Value} {l l2 : List Int} (h : Rb W v l) (h2 : Rb W v2 l2) : Calls Try.prog 4 #[v, v2] W fun e W' => ∃ (n : Nat) (b : Bool), e = .returned (.bool b) ∧ W' = W.drewN n := by
  obtain ⟨A, c, rfl, hc, hr, _⟩ := h
  obtain ⟨A2, c2, rfl, hc2, hr2, _⟩ := h2
  obtain ⟨b, e⟩ : ∃ b, laws_big.f l l2 = some b := by unfold laws_big.f; split <;> exact ⟨_, rfl⟩
  exact (laws_big.calls A c l A2 c2 l2 b W hr hc hr2 hc2 e).mono fun _ _ ⟨he, n, hn⟩ => ⟨n, b, he, hn⟩
theorem row_keep {W W' : World} {base : Nat} {ok : Nat → Prop} {v : Value} {l : List Int} (h : Kd.R (Kd.int .i64) 3 W base ok v l) (hk : KeepBut W W' g none) (hg : g < base) : Kd.R (Kd.int .i64) 3 W' base (fun _ => True) v l :=
  Kd.R_mono (Kd.R_keep (Kd.R_bound h) hk (fun k hk => by have := hk.2.1; omega)) (fun _ _ => trivial)
theorem row_far {W : World} {base : Nat} {ok : Nat → Prop} {v : Value} {l : List Int} (h : Kd.R (Kd.int .i64) 3 W base ok v l) {p : Addr} (hp : p.block < base) (u : Value) : Kd.R (Kd.int .i64) 3 (W.setCell p u) base (fun _ => True) v l :=
  Kd.R_mono (Kd.R_far (Kd.R_bound h) (fun k hk => by have := hk.2.1; omega) u) (fun _ _ => trivial)
def Nw (W W' : World) (u : Value) (m : List Int) : Prop := Kd.R (Kd.int .i64) 3 W' W.heap.size (fun _ => True) u m ∧ m.length ≤ 1048576
theorem Nw.rd {W W' : World} {u : Value} {m : List Int} (h : Nw W W' u m) : Rd W' u m := Rd.of h.1 h.2
theorem Nw.slice {W W' : World} {u : Value} {m : List Int} (h : Nw W W' u m) : ∃ A c, u = .slice A m.length c := h.rd.slice
theorem Cur.keepB {w0 w w1 : World} {g : Nat} {a : Int} (h : Cur w0 g a w) (hb : Below w.heap.size w w1) : KeepBut w w1 g none := KeepBut.of_below hb g none
def DrawGP (W : World) (e : Ending) (W' : World) : Prop := ∃ (u : Value) (m : List Int) (own : Bool), e = .returned (.agg #[u, .bool own]) ∧ Nw W W' u m ∧ Below W.heap.size W W'
def DrawGSP (W : World) (e : Ending) (W' : World) : Prop := ∃ (u : Value) (m : List Int) (own : Bool) (a : Int), e = .returned (.tuple #[.agg #[u, .bool own], .int .i64 a]) ∧ Nw W W' u m ∧ Below W.heap.size W W'
def Own (W : World) (lo hi : Nat) (v : Value) (l : List Int) : Prop := Kd.R (Kd.int .i64) 3 W lo (fun k => lo ≤ k ∧ k < hi) v l
theorem Own.of {W : World} {lo : Nat} {ok : Nat → Prop} {v : Value} {l : List Int} (h : Kd.R (Kd.int .i64) 3 W lo ok v l) : Own W lo W.heap.size v l := Kd.R_mono (Kd.R_bound h) (fun k hk => ⟨hk.2.1, hk.2.2.1⟩)
theorem Own.rd {W : World} {lo hi : Nat} {v : Value} {l : List Int} (h : Own W lo hi v l) (hl : l.length ≤ 1048576) : Rd W v l := Rd.of (show Kd.R (Kd.int .i64) 3 W lo (fun k => lo ≤ k ∧ k < hi) v l from h) hl
theorem Own.keep {W W' : World} {lo hi : Nat} {v : Value} {l : List Int} (h : Own W lo hi v l) (hk : KeepBut W W' g none) (hg : g < lo) : Own W' lo hi v l := Kd.R_keep h hk (fun k hk => by omega)
theorem Own.low {W W' : World} {lo hi B : Nat} {v : Value} {l : List Int} (h : Own W lo hi v l) (hb : Below B W W') (hB : hi ≤ B) : Own W' lo hi v l := Kd.R_step h (fun k hk _ => hb.block k (by omega))
theorem Own.alloc {W : World} {lo hi : Nat} {v : Value} {l : List Int} (h : Own W lo hi v l) (o : Obj) : Own (W.alloc o) lo hi v l := Kd.R_alloc h o
theorem Own.drew {W : World} {lo hi : Nat} {v : Value} {l : List Int} (h : Own W lo hi v l) : Own W.drew lo hi v l := Kd.R_drew h
theorem Own.drewN {W : World} {lo hi : Nat} {v : Value} {l : List Int} (h : Own W lo hi v l) (n : Nat) : Own (W.drewN n) lo hi v l := Kd.R_drewN h n
theorem Own.far {W : World} {lo hi : Nat} {v : Value} {l : List Int} (h : Own W lo hi v l) {p : Addr} (hp : p.block < lo) (u : Value) : Own (W.setCell p u) lo hi v l := Kd.R_far h (fun k hk => by omega) u
end Go.Proofs.Ytlohlngmagpepaa.Draw
namespace Go.Proofs.Ytlohlngmagpepaa.Draw
open Go.RowKit Go.Proofs.Ytlohlngmagpepaa.PFnCutsAndEvenEdges Go.Proofs.YtlohlngmagpepaaW.PrintWords Go.Proofs.YtlohlngmagpepaaW.PrintLast Go.Proofs.YtlohlngmagpepaaW.PrintMore Go.Proofs.YtlohlngmagpepaaM Go.Proofs.Ytlohlngmagpepaa.Pure
attribute [local go_sem] max2_int min2_int max_two min_two max_three min_three max_four min_four
set_option linter.unusedVariables false
set_option linter.unusedSimpArgs false
variable {w0 w w1 W : World} {g : Nat} {a : Int}
abbrev pairK : Kd (Int × Int) := Kd.pair (Kd.int .i64) (Kd.int .i64)
def pairV (p : Int × Int) : Value := .agg #[.int .i64 p.1, .int .i64 p.2]
theorem pair_at {W : World} {lo e : Nat} {ok : Nat → Prop} {A : Option Addr} {n c : Nat} {ps : List (Int × Int)} (h : Kd.R pairK e W lo ok (.slice A n c) ps) (i : Nat) (h1 : i < n) : ∃ b p, A = some ⟨b, 0, none⟩ ∧ (lo ≤ b ∧ b < W.heap.size) ∧ ps[i]? = some p ∧ W.cell? ⟨b, i * 2, none⟩ = some (.int .i64 p.1) ∧ W.cell? ⟨b, i * 2 + 1, none⟩ = some (.int .i64 p.2) := by
  obtain ⟨inner, hown⟩ := Kd.R_own h
  obtain ⟨hn, _, hC⟩ := Kd.R_reads' h
  have hA : ∃ b, A = some ⟨b, 0, none⟩ ∧ lo ≤ b ∧ b < W.heap.size := by
    rcases hown.2 with ⟨hv, h0⟩ | ⟨g, cap, cur, hv, hb, hb2⟩
    · omega
    · injection hv with hv
      exact ⟨g, hv, hb, blk_lt hb2.1⟩
  obtain ⟨b, rfl, hb⟩ := hA
  obtain ⟨ad, c, e, hl, ⟨c0, c1, rfl, h0, h2⟩, hc⟩ := Kd.C_get hC ((0, 0) : Int × Int) (i : Int) (by omega) (by omega)
  have e0 : c0 = [.int .i64 (ps.getD i (0, 0)).1] := h0
  have e1 : c1 = [.int .i64 (ps.getD i (0, 0)).2] := h2
  have hi : i < ps.length := by omega
  injection e with e
  subst e
  refine ⟨b, ps[i], rfl, hb, by simp [hi], ?_, ?_⟩
  · have := hc 0 (.int .i64 (ps.getD i (0, 0)).1) (by rw [e0, e1]; rfl)
    rw [show pairK.sz = 2 from rfl, show (⟨b, 0, none⟩ : Addr).add ((i : Int).toNat * 2 + 0) = ⟨b, i * 2, none⟩ by simp [Addr.add]; omega] at this
    simpa [List.getD_eq_getElem?_getD, List.getElem?_eq_getElem hi] using this
  · have := hc 1 (.int .i64 (ps.getD i (0, 0)).2) (by rw [e0, e1]; rfl)
    rw [show pairK.sz = 2 from rfl] at this
    simpa [Addr.add, List.getD_eq_getElem?_getD, List.getElem?_eq_getElem hi] using this
def PredP (g : Nat) (lb : Array Value) (p : Int × Int → Bool) (ps : List (Int × Int)) (w : World) : Prop :=
  ∀ (W : World) (x : Int × Int), x ∈ ps → Below w.heap.size w W → Calls Try.prog g (#[pairV x] ++ lb) W fun e w' => e = .returned (.bool (p x)) ∧ Below W.heap.size W w'
def firstP (p : Int × Int → Bool) : List (Int × Int) → Int → Int
  | [], _ => -1
  | x :: r, i => if p x then i else firstP p r (i + 1)
theorem firstP_drop (p : Int × Int → Bool) (l : List (Int × Int)) (i : Nat) (x : Int × Int) (h : l[i]? = some x) : firstP p (l.drop i) i = if p x then (i : Int) else firstP p (l.drop (i + 1)) (i + 1 : Nat) := by
  obtain ⟨hi, e⟩ := List.getElem?_eq_some_iff.1 h
  rw [List.drop_eq_getElem_cons hi, firstP, e]
  rfl
set_option maxRecDepth 100000 in
set_option maxHeartbeats 4000000 in
theorem indexP_any (g : Nat) (lb : Array Value) (p : Int × Int → Bool) (eg : ∀ args w, (callFunc g args).run Try.prog w = .ok (.enter g args) w) (lo : Nat) (v : Value) (ps : List (Int × Int)) (w : World) (hp : PredP g lb p ps w) (hr : Kd.R pairK 92 w lo (fun _ => True) v ps) (hl : ps.length ≤ 1048576) :
    Calls Try.prog 76 #[v, .func (.func g) #[] lb] w fun e w' => e = .returned (.int .i64 (firstP p ps 0)) ∧ Below w.heap.size w w' := by
  obtain ⟨A0, c0, rfl⟩ := Kd.R_slice hr
  have HR0 := Aside0.mk hr
  have HP := Aside0.mk hp
  have hu := Try.underlying92
  clear hr hp
  go_enter Try.func76, Try.ntmps76
  go_wp2
  go_loopg [5, 8] ps.length (fun gg _ s8 wr => ∃ kk : Nat, s8 = .int .i64 kk ∧ Aside0 (Below w.heap.size w wr) ∧ Aside0 (kk ≤ ps.length ∧ ps.length - kk ≤ gg ∧ firstP p ps 0 = firstP p (ps.drop kk) kk))
  case atStart => exact ⟨0, rfl, ⟨Below.refl _ _⟩, ⟨by omega, by omega, rfl⟩⟩
  case round =>
    obtain ⟨kk, rfl, HB, HA⟩ := hrel
    by_cases hlt : kk < ps.length
    · have hlti : (kk : Int) < (ps.length : Int) := by omega
      have hk0 : (0 : Int) ≤ (kk : Int) := by omega
      obtain ⟨b, x, e1, hlo, hx, hx0, hx1⟩ := pair_at (Kd.R_below HR0.out HB.out) kk hlt
      subst e1
      have hcall := HP.out wr x (List.mem_of_getElem? hx) HB.out
      have hf := Aside0.mk (firstP_drop p ps kk x hx)
      obtain ⟨x0, x1⟩ := x
      simp only at hx0 hx1
      unfold pairV at hcall
      clear hx
      cases hq : p (x0, x1) with
      | true =>
        rw [hq] at hcall
        have HQ := Aside0.mk hq
        clear hq
        go_wp2_with fail
        refine hcall.mono ?_
        rintro e w' ⟨rfl, hb⟩
        clear hcall
        go_wp2
        go_ret
        refine ⟨?_, below_step HB.out hb⟩
        have := HA.out.2.2
        rw [this, hf.out, HQ.out]
        rfl
      | false =>
        rw [hq] at hcall
        have HQ := Aside0.mk hq
        clear hq
        go_wp2_with fail
        refine hcall.mono ?_
        rintro e w' ⟨rfl, hb⟩
        clear hcall
        have HB2 := Aside0.mk (below_step HB.out hb)
        clear HB hb
        go_wp2
        go_roundg (ps.length - kk - 1)
        case measure => have := HA.out.2.1; omega
        case rel =>
          refine ⟨kk + 1, by go_num, HB2, ⟨by omega, by have := HA.out.2.1; omega, ?_⟩⟩
          rw [HA.out.2.2, hf.out, HQ.out]
          rfl
    · have hge : (ps.length : Int) ≤ (kk : Int) := by omega
      go_wp2
      go_ret
      refine ⟨?_, HB.out⟩
      rw [HA.out.2.2, List.drop_eq_nil_of_le (by omega)]
      rfl
theorem pdeg_beq (e x : Nat) : (pdeg e == pdeg x) = (blen e == blen x) := by
  unfold pdeg
  rw [Bool.eq_iff_iff, beq_iff_eq, beq_iff_eq]
  omega
set_option maxRecDepth 100000 in
set_option maxHeartbeats 4000000 in
theorem topP_any {W : World} {x e q bl : Nat} (hc : W.cell? ⟨bl, 0, none⟩ = some (.int .i64 (x : Int))) (hbl : bl < W.heap.size) (he : e < 2 ^ 62) (hx : x < 2 ^ 62) :
    Calls Try.prog 77 #[pairV ((e : Int), (q : Int)), .pointer (some ⟨bl, 0, none⟩)] W fun r w' => r = .returned (.bool (blen e == blen x)) ∧ Below W.heap.size W w' := by
  have hu := Try.underlying92
  have h1 : ∀ w, Calls Try.prog 73 #[.int .i64 (e : Int)] w fun r w' => r = .returned (.int .i64 (pdeg e)) ∧ ∃ n, w' = w.drewN n := fun w => (impl_top.calls 1 (e : Int) (pdeg e) w (impl_top.eq 0 e (by omega))).mono fun _ _ ⟨he, hd⟩ => ⟨he, hd.out⟩
  have h2 : ∀ w, Calls Try.prog 73 #[.int .i64 (x : Int)] w fun r w' => r = .returned (.int .i64 (pdeg x)) ∧ ∃ n, w' = w.drewN n := fun w => (impl_top.calls 1 (x : Int) (pdeg x) w (impl_top.eq 0 x (by omega))).mono fun _ _ ⟨he, hd⟩ => ⟨he, hd.out⟩
  have HB := Aside0.mk (below_alloc (Below.refl W.heap.size W) (.cells #[.int .i64 (e : Int), .int .i64 (q : Int)] 92 (0, 0)))
  have X := Aside0.mk (blk_new W (.cells #[.int .i64 (e : Int), .int .i64 (q : Int)] 92 (0, 0)))
  have hC := (HB.out.cell (p := ⟨bl, 0, none⟩) hbl).trans hc
  have hp := pdeg_beq e x
  clear hc
  unfold pairV
  go_enter Try.func77, Try.ntmps77
  go_upto_region 1 with (fail)
  generalize W.alloc (.cells #[.int .i64 (e : Int), .int .i64 (q : Int)] 92 (0, 0)) = w1 at *
  have hX0 := (blk_cell X.out 0).trans rfl
  have hX1 := (blk_cell X.out 1).trans rfl
  go_quiet (first | (go_at_call 73; exact Calls.quiet_of (h1 _)) | (go_at_call 73; exact Calls.quiet_of (h2 _)))
  go_wp2
  go_ret
  exact ⟨rfl, below_step HB.out (pw_below_drewN (Below.refl _ _) _)⟩
def pairI (p : Nat × Nat) : Int × Int := ((p.1 : Int), (p.2 : Int))
theorem firstP_from (b : Nat) : ∀ (ps : List (Nat × Nat)) (i : Nat), match findP ps b with
    | none => firstP (fun q => blen q.1.toNat == b) (ps.map pairI) i = -1
    | some p => ∃ k : Nat, k < ps.length ∧ firstP (fun q => blen q.1.toNat == b) (ps.map pairI) i = ((i + k : Nat) : Int) ∧ ps[k]? = some p
  | [], i => rfl
  | x :: r, i => by
    have ih := firstP_from b r (i + 1)
    unfold findP at ih ⊢
    rw [List.find?_cons, List.map_cons, firstP]
    have e : blen (pairI x).1.toNat = blen x.1 := by unfold pairI; rw [Int.toNat_natCast]
    rw [e]
    by_cases h : (blen x.1 == b) = true
    · rw [h]
      exact ⟨0, by simp, by simp, rfl⟩
    · have h2 : (blen x.1 == b) = false := by simpa using h
      rw [h2, if_neg (by decide)]
      cases hf : r.find? fun p => blen p.1 == b with
      | none =>
        rw [hf] at ih
        exact ih
      | some p =>
        rw [hf] at ih
        obtain ⟨k, h1, h2, h3⟩ := ih
        exact ⟨k + 1, by simp; omega, by rw [show i + (k + 1) = i + 1 + k by omega]; exact h2, by simpa using h3⟩
set_option maxRecDepth 100000 in
set_option maxHeartbeats 4000000 in
theorem reach_any {W : World} {g lo : Nat} {vp vq vi : Value} {ps : List (Nat × Nat)} {x : Nat} (hX : W.heap[g]? = some (.cells #[vp, vq, vi] 80 (0, 0))) (hr : Kd.R pairK 92 W lo (fun _ => True) vp (ps.map pairI)) (hps : SmallP ps) (hn : ps.length ≤ 1048576) (hx : x < 2 ^ 62) :
    Calls Try.prog 71 #[.pointer (some ⟨g, 0, none⟩), .int .i64 (x : Int)] W fun e W' => e = .returned (.tuple #[.int .i64 ((reach ps x).1 : Int), .int .i64 ((reach ps x).2 : Int)]) ∧ Below W.heap.size W W' := by
  have hu := Try.underlying80
  have hu2 := Try.underlying92
  have hgl := blk_lt hX
  obtain ⟨A, c, rfl⟩ := Kd.R_slice hr
  have hlen : (ps.map pairI).length = ps.length := List.length_map ..
  rw [hlen] at hr hX
  have HX := Aside0.mk hX
  have HR := Aside0.mk hr
  have HP := Aside0.mk hps
  have HB := Aside0.mk (below_alloc (Below.refl W.heap.size W) (.cells #[.int .i64 (x : Int)] 3 (0, 0)))
  have L := Aside0.mk (blk_new W (.cells #[.int .i64 (x : Int)] 3 (0, 0)))
  clear hX hr hps
  go_enter Try.func71, Try.ntmps71
  go_upto_region 1 with (fail)
  generalize W.alloc (.cells #[.int .i64 (x : Int)] 3 (0, 0)) = w1 at *
  go_wp2
  go_loopg [6, 7] (blen x) (fun gg v6 _ wr => ∃ x1 y1 : Nat, v6 = .int .i64 (y1 : Int) ∧ Aside0 (x1 < 2 ^ 62 ∧ y1 < 2 ^ 62 ∧ blen x1 ≤ gg ∧ reachN ps (blen x1) x1 y1 = reach ps x) ∧ Aside0 (wr.heap[W.heap.size]? = some (.cells #[.int .i64 (x1 : Int)] 3 (0, 0))) ∧ Aside0 (Below W.heap.size W wr))
  case atStart => exact ⟨x, 0, rfl, ⟨hx, by decide, Nat.le_refl _, rfl⟩, L, HB⟩
  case round =>
    clear L HB
    obtain ⟨x1, y1, rfl, HA, L, HB⟩ := hrel
    obtain ⟨hx1, hy1, hm, hre⟩ := HA.out
    have hL := (blk_cell L.out 0).trans rfl
    have hfL := blk_frozen L.out 0
    have nX := blk_below HX.out HB.out
    have hX0 := (blk_cell nX 0).trans rfl
    have hR := Aside0.mk (Kd.R_below HR.out HB.out)
    have hbl := blk_lt L.out
    by_cases e0 : x1 = 0
    · subst e0
      rw [reachN_zero] at hre
      have hr2 := Aside0.mk hre
      clear hre
      go_wp2
      go_ret2
      exact ⟨by rw [← hr2.out]; rfl, HB.out⟩
    · have hne : ((x1 : Int) != 0) = true := by simp; exact e0
      rw [reachN_step e0] at hre
      have hp : PredP 77 #[.pointer (some ⟨W.heap.size, 0, none⟩)] (fun q => blen q.1.toNat == blen x1) (ps.map pairI) wr := fun W2 q hq hb2 => by
        obtain ⟨p, hp, rfl⟩ := List.mem_map.1 hq
        have h3 := HP.out p hp
        have h4 := topP_any (W := W2) (x := x1) (e := p.1) (q := p.2) (bl := W.heap.size) ((hb2.cell (p := ⟨W.heap.size, 0, none⟩) hbl).trans hL) (Nat.lt_of_lt_of_le hbl hb2.size) h3.2.1 hx1
        exact h4.mono fun _ _ ⟨he, hb⟩ => ⟨he.trans (by simp only [pairI, Int.toNat_natCast]), hb⟩
      have hi := indexP_any 77 #[.pointer (some ⟨W.heap.size, 0, none⟩)] (fun q => blen q.1.toNat == blen x1) (Go.Proofs.enters_of Try.func77 (by kernel_rfl) rfl) lo _ (ps.map pairI) wr hp hR.out (by omega)
      have hfp := firstP_from (blen x1) ps 0
      cases hf : findP ps (blen x1) with
      | none =>
        rw [hf] at hre hfp
        simp only at hre hfp
        rw [show ((0 : Nat) : Int) = 0 from rfl] at hfp
        rw [hfp] at hi
        have HI := Aside0.mk hi
        have hr2 := Aside0.mk hre
        clear hi hp hfp hf hre
        go_wp2_with (go_at_call 76; (with_reducible refine HI.out.mono ?_); rintro e w2 ⟨rfl, hb⟩; have nB := Aside0.mk (below_step HB.out hb); have hL2 := (hb.cell (p := ⟨W.heap.size, 0, none⟩) hbl).trans hL; clear HB hL hb HI L; have HB := nB; clear nB)
        go_ret2
        exact ⟨by rw [← hr2.out]; rfl, HB.out⟩
      | some p =>
        rw [hf] at hre hfp
        simp only at hre hfp
        obtain ⟨k, hk, hfk, hpk⟩ := hfp
        rw [show ((0 : Nat) : Int) = 0 from rfl, Nat.zero_add] at hfk
        rw [hfk] at hi
        have HI := Aside0.mk hi
        have h3 := HP.out p (List.mem_of_getElem? hpk)
        have hbp := (findP_mem hf).2
        have hlt := blen_xor' e0 hbp
        obtain ⟨b, q, rfl, ⟨hlo, hbW⟩, hq, hq0, hq1⟩ := pair_at HR.out k hk
        rw [List.getElem?_map, hpk] at hq
        obtain rfl : pairI p = q := by simpa using hq
        simp only [pairI] at hq0 hq1
        have hq0' := Aside0.mk hq0
        have hq1' := Aside0.mk hq1
        have hr2 := Aside0.mk hre
        have hk0 : (0 : Int) ≤ (k : Int) := by omega
        have hk1 : (k : Int) < (ps.length : Int) := by omega
        have hbne : b ≠ W.heap.size := by omega
        have hgne : g ≠ W.heap.size := by omega
        clear hi hp hfk hf hre hq hq0 hq1
        go_upto_region 5 with (go_at_call 76; (with_reducible refine HI.out.mono ?_); rintro e w2 ⟨rfl, hb⟩; have nL := Aside0.mk (blk_below L.out hb); have nB := Aside0.mk (below_step HB.out hb); clear HB HI hL hfL hX0 nX hb L hR; have HB := nB; have L := nL; clear nB nL; have hL := (blk_cell L.out 0).trans rfl; have hfL := blk_frozen L.out 0; have nX := blk_below HX.out HB.out; have hX0 := (blk_cell nX 0).trans rfl; have hq0 := (HB.out.cell (p := ⟨b, k * 2, none⟩) hbW).trans hq0'.out; have hq1 := (HB.out.cell (p := ⟨b, k * 2 + 1, none⟩) hbW).trans hq1'.out; clear nX)
        go_region
        have xe : Go.bits .xor .i64 (x1 : Int) (p.1 : Int) = ((x1 ^^^ p.1 : Nat) : Int) := xor_nat x1 p.1 (by omega) (by omega)
        have ye : Go.bits .xor .i64 (y1 : Int) (p.2 : Int) = ((y1 ^^^ p.2 : Nat) : Int) := xor_nat y1 p.2 (by omega) (by omega)
        rw [xe]
        have nL := Aside0.mk (blk_drew (blk_put L.out 0 (.int .i64 ((x1 ^^^ p.1 : Nat) : Int)) rfl))
        have nB := Aside0.mk (below_step (below_set (j := 0) (v := .int .i64 ((x1 ^^^ p.1 : Nat) : Int)) HB.out (Nat.le_refl _)) (below_drew1 (Below.refl _ _)))
        clear L HB hL hfL hX0 hq0 hq1 xe
        generalize (w2.setCell ⟨W.heap.size, 0, none⟩ (.int .i64 ((x1 ^^^ p.1 : Nat) : Int))).drew = w3 at *
        have nX := blk_below HX.out nB.out
        have hX0 := (blk_cell nX 0).trans rfl
        have hq1 := (nB.out.cell (p := ⟨b, k * 2 + 1, none⟩) hbW).trans hq1'.out
        clear nX
        go_wp2
        go_roundg (blen (x1 ^^^ p.1))
        case measure => omega
        case rel => exact ⟨x1 ^^^ p.1, y1 ^^^ p.2, rfl, ⟨Nat.xor_lt_two_pow hx1 h3.2.1, Nat.xor_lt_two_pow hy1 h3.2.2, Nat.le_refl _, hr2.out⟩, nL, nB⟩
theorem extended_at {W : World} {B : Nat} {v : Value} {l : List Nat} {s : Nat} (hB : B ≤ W.heap.size) (hr : Kd.R (Kd.int .i64) 3 W B (fun _ => True) v (ints l)) (hs : s < 2 ^ 62) (hl : ∀ b ∈ l, b < 2 ^ 62) (hb : Basis l) (hn : l.length ≤ 1048576) :
    Calls Try.prog 70 #[v, .int .i64 (s : Int)] W fun e W' => ∃ v', e = .returned v' ∧ Kd.R (Kd.int .i64) 3 W' B (fun _ => True) v' (ints (put l s)) ∧ Below W.heap.size W W' := by
  have hsz : ({ W with heap := W.heap.extract 0 B } : World).heap.size = B := by simp; omega
  have hb0 : Below ({ W with heap := W.heap.extract 0 B } : World).heap.size { W with heap := W.heap.extract 0 B } W := by
    refine ⟨rfl, rfl, rfl, by rw [hsz]; exact hB, fun k hk => ?_⟩
    rw [hsz] at hk
    simp only [Array.getElem?_extract]
    rw [if_pos (by omega)]
    simp
  refine (impl_extended.keeps 1 (fun _ => True) v (ints l) (s : Int) (ints (put l s)) { W with heap := W.heap.extract 0 B } W hb0 (by rw [hsz]; exact hr) (impl_extended.eq 0 l s hs hl hb hn)).mono ?_
  rintro e W' ⟨v', he, h1, _, h2⟩
  rw [hsz] at h1
  exact ⟨v', he, Kd.R_mono h1 (fun _ _ => trivial), h2⟩
theorem xor_one {q j : Nat} (hq : q < 2 ^ 62) (hj : j < 62) : Go.bits .xor .i64 (q : Int) (wrap64 (2 ^ j)) = ((q ^^^ 2 ^ j : Nat) : Int) := by
  have h2 : (2 : Nat) ^ j < 2 ^ 62 := Nat.pow_lt_pow_right (by decide) hj
  have e : (2 : Int) ^ j = ((2 ^ j : Nat) : Int) := by simp
  rw [e]
  generalize 2 ^ j = m at h2 ⊢
  rw [wrap_id (by omega) (by omega)]
  exact xor_nat q m (by omega) (by omega)
def SvAt (W : World) (b : Nat) (s : Sv) : Prop := ∃ vp vq vi : Value, W.heap[b]? = some (.cells #[vp, vq, vi] 80 (0, 0)) ∧ Kd.R pairK 92 W (b + 1) (fun _ => True) vp (s.ps.map pairI) ∧ Kd.R (Kd.int .i64) 3 W (b + 1) (fun _ => True) vq (ints s.quiet) ∧ Kd.R (Kd.int .i64) 3 W (b + 1) (fun _ => True) vi (ints s.image)
theorem SvAt.below {W W' : World} {b : Nat} {s : Sv} (h : SvAt W b s) (hb : Below W.heap.size W W') : SvAt W' b s := by
  obtain ⟨vp, vq, vi, h1, h2, h3, h4⟩ := h
  exact ⟨vp, vq, vi, blk_below h1 hb, Kd.R_below h2 hb, Kd.R_below h3 hb, Kd.R_below h4 hb⟩
theorem SvAt.lt {W : World} {b : Nat} {s : Sv} (h : SvAt W b s) : b < W.heap.size := by obtain ⟨_, _, _, h1, _⟩ := h; exact blk_lt h1
theorem rowP_far {W : World} {base e : Nat} {v : Value} {l : List (Int × Int)} (h : Kd.R pairK e W base (fun _ => True) v l) {p : Addr} (hp : p.block < base) (u : Value) : Kd.R pairK e (W.setCell p u) base (fun _ => True) v l :=
  Kd.R_mono (Kd.R_far (Kd.R_bound h) (fun k hk => by have := hk.2.1; omega) u) (fun _ _ => trivial)
theorem rInt_grown {W w1 : World} {base : Nat} {v : Value} {xs : List Int} {row : Option Nat} (h : Kd.R (Kd.int .i64) 3 W base (fun _ => True) v xs) (hg : W.grownBy w1 row) (hne : v.ownBlock = none ∨ v.ownBlock ≠ row) : Kd.R (Kd.int .i64) 3 w1 base (fun _ => True) v xs := Kd.R_of_own (own_other (Kd.own_of_R h) hg hne) (fun _ _ => trivial)
theorem rows_apart {W : World} {b b2 e e2 s s2 n n2 : Nat} {v v2 : Value} {xs ys : List Value} (h : W.ownsRow b e s v n xs) (h2 : W.ownsRow b2 e2 s2 v2 n2 ys) (hne : e ≠ e2) : v.ownBlock = none ∨ v.ownBlock ≠ v2.ownBlock := by
  rcases h.2 with ⟨hv, _⟩ | ⟨g, cap, cur, hv, hb, hg, _⟩
  · exact .inl (by rw [hv]; rfl)
  · rcases h2.2 with ⟨hv2, _⟩ | ⟨g2, cap2, cur2, hv2, hb2, hg2, _⟩
    · exact .inr (by rw [hv, hv2]; exact fun h => by cases h)
    · refine .inr (fun hh => ?_)
      rw [hv, hv2] at hh
      have hh2 : some g = some g2 := hh
      injection hh2 with hh2
      rw [hh2, hg2] at hg
      injection hg with hg
      injection hg with _ hg
      exact hne hg.symm
theorem rInt_apart {W : World} {b b2 e2 : Nat} {v v2 : Value} {xs : List Int} {ps : List (Int × Int)} (h : Kd.R (Kd.int .i64) 3 W b (fun _ => True) v xs) (h2 : Kd.R pairK e2 W b2 (fun _ => True) v2 ps) (hne : 3 ≠ e2) : v.ownBlock = none ∨ v.ownBlock ≠ v2.ownBlock := by
  obtain ⟨inner, ho⟩ := Kd.R_own h2
  exact rows_apart (Kd.own_of_R h) ho hne
theorem infoP : (Try.prog.info? 92).map (fun i => (i.zero, i.size, i.bytes)) = some (some (.agg #[.int .i64 0, .int .i64 0]), 2, 16) := by kernel_rfl
set_option maxRecDepth 100000 in
set_option maxHeartbeats 4000000 in
theorem solverFor_any {W : World} {v : Value} {l : List Nat} (h : Rd W v (ints l)) (hl : l.length ≤ 61) (he : ∀ e ∈ l, e < 2 ^ 62) :
    Calls Try.prog 69 #[v] W fun e W' => ∃ b, e = .returned (.pointer (some ⟨b, 0, none⟩)) ∧ W.heap.size ≤ b ∧ SvAt W' b (svOf l) ∧ Below W.heap.size W W' := by
  have hu := Try.underlying80
  have hu2 := Try.underlying92
  obtain ⟨A, c, rfl⟩ := h.slice
  rw [ints_length] at h ⊢
  have HR := Aside0.mk h
  have HE := Aside0.mk he
  have HB := Aside0.mk (below_alloc (Below.refl W.heap.size W) (.cells #[.slice none 0 0, .slice none 0 0, .slice none 0 0] 80 (0, 0)))
  have HS : Aside0 (SvAt (W.alloc (.cells #[.slice none 0 0, .slice none 0 0, .slice none 0 0] 80 (0, 0))) W.heap.size svNew) := ⟨⟨_, _, _, blk_new W _, Kd.R_nil _ _ _ _ _, Kd.R_nil _ _ _ _ _, Kd.R_nil _ _ _ _ _⟩⟩
  clear h he
  go_enter Try.func69, Try.ntmps69
  go_upto_region 2 with (fail)
  generalize W.alloc (.cells #[.slice none 0 0, .slice none 0 0, .slice none 0 0] 80 (0, 0)) = w1 at *
  go_wp2
  go_loopw [12] (fun v12 wr => ∃ j : Nat, j ≤ l.length ∧ v12 = .int .i64 (j : Int) ∧ Aside0 (SvAt wr W.heap.size (svGo (l.take j) 0 svNew)) ∧ Aside0 (Below W.heap.size W wr)) (fun v12 _ => l.length - (intOf v12).toNat)
  case atStart => exact ⟨0, Nat.zero_le _, rfl, HS, HB⟩
  case round =>
    clear HS HB
    obtain ⟨j, hj, rfl, HS, HB⟩ := hrel
    by_cases hlt : j < l.length
    · have hst := svGo_take hlt
      have hok0 := svOk_go (n := 62) (m := 62) (l.take j) 0 0 svNew (svOk_new 62 62) (by simp; omega) (fun e he => HE.out e (List.mem_of_mem_take he))
      generalize svGo (l.take j) 0 svNew = s at *
      have hej := HE.out l[j] (List.getElem_mem hlt)
      obtain ⟨ad, e1, hc0⟩ := HR.out.cell (j : Int) (by omega) (by omega)
      subst e1
      clear hc0
      have hc0 := (HR.out.below HB.out).cellN j (by omega)
      rw [ints_get l j hlt] at hc0
      generalize l[j] = e at *
      obtain ⟨vp, vq, vi, hX, hP, hQ, hI⟩ := HS.out
      obtain ⟨Ap, cp, rfl⟩ := Kd.R_slice hP
      have hlm : (s.ps.map pairI).length = s.ps.length := List.length_map ..
      rw [hlm] at hX hP
      obtain ⟨Aq, cq, rfl⟩ := Kd.R_slice hQ
      obtain ⟨Ai, ci, rfl⟩ := Kd.R_slice hI
      have X := Aside0.mk hX
      have RP := Aside0.mk hP
      have RQ := Aside0.mk hQ
      have RI := Aside0.mk hI
      have hbl := blk_lt hX
      have HK := Aside0.mk hok0
      clear hX hP hQ hI HS hok0
      have hX2 := (blk_cell X.out 2).trans rfl
      have hfX2 := blk_frozen X.out 2
      go_upto_region 6 with (go_at_call 70; (with_reducible refine (extended_at (Nat.succ_le_of_lt (blk_lt X.out)) RI.out hej (fun b hb => (HK.out.i b hb)) HK.out.ib (by have := HK.out.il; simp at this; omega)).mono ?_); rintro e w2 ⟨vi2, rfl, hr, hb⟩; obtain ⟨Aj, cj, rfl⟩ := Kd.R_slice hr; have nX := Aside0.mk (blk_below X.out hb); have nP := Aside0.mk (Kd.R_below RP.out hb); have nQ := Aside0.mk (Kd.R_below RQ.out hb); have nI := Aside0.mk hr; have nB := Aside0.mk (below_step HB.out hb); clear X RP RQ RI HB hb hr hX2 hfX2; have X := nX; have RP := nP; have RQ := nQ; have RI := nI; have HB := nB; clear nX nP nQ nI nB; have hX2 := (blk_cell X.out 2).trans rfl; have hfX2 := blk_frozen X.out 2)
      have nX := Aside0.mk (blk_put X.out 2 (.slice Aj (ints (put s.image e)).length cj) rfl)
      have nRP := Aside0.mk (rowP_far RP.out (p := ⟨W.heap.size, 2, none⟩) (by simp only; omega) (.slice Aj (ints (put s.image e)).length cj))
      have nRQ := Aside0.mk (row_far RQ.out (p := ⟨W.heap.size, 2, none⟩) (by simp only; omega) (.slice Aj (ints (put s.image e)).length cj))
      have nRI := Aside0.mk (row_far RI.out (p := ⟨W.heap.size, 2, none⟩) (by simp only; omega) (.slice Aj (ints (put s.image e)).length cj))
      have nB := Aside0.mk (below_set (j := 2) (v := .slice Aj (ints (put s.image e)).length cj) HB.out (Nat.le_refl _))
      have hbl2 : W.heap.size < (w2.setCell ⟨W.heap.size, 2, none⟩ (.slice Aj (ints (put s.image e)).length cj)).heap.size := blk_lt nX.out
      clear X RP RQ RI HB; (try clear hX0 hfX0); (try clear hX1 hfX1); (try clear hX2 hfX2); clear hbl
      generalize w2.setCell ⟨W.heap.size, 2, none⟩ (.slice Aj (ints (put s.image e)).length cj) = w3 at *
      have X := nX; have RP := nRP; have RQ := nRQ; have RI := nRI; have HB := nB; have hbl := hbl2; clear nX nRP nRQ nRI nB hbl2
      have hsp : SmallP s.ps := fun p hp => HK.out.ps p hp
      have hpl : s.ps.length ≤ 1048576 := by have := HK.out.pl; simp at this; omega
      have hra := reach_any X.out RP.out hsp hpl hej
      have hrl := reach_lt HK.out hej
      rcases hre : reach s.ps e with ⟨a, q⟩
      rw [hre] at hra hrl
      simp only at hra hrl
      have RA := Aside0.mk hra
      have hq2 : q ^^^ 2 ^ j < 2 ^ 62 := Nat.xor_lt_two_pow hrl.2 (Nat.pow_lt_pow_right (by decide) (by omega))
      have hpj : (2 : Nat) ^ j < 2 ^ 62 := Nat.pow_lt_pow_right (by decide) (by omega)
      have xe := xor_one hrl.2 (show j < 62 by omega)
      have HRE := Aside0.mk hre
      clear hra hre hsp
      by_cases e0 : a = 0
      · subst e0
        go_upto_region 11 with (first
          | (go_at_call 71; (with_reducible refine RA.out.mono ?_); rintro r w4 ⟨rfl, hb⟩; clear RA; have nX := Aside0.mk (blk_below X.out hb); have nRP := Aside0.mk (Kd.R_below RP.out hb); have nRQ := Aside0.mk (Kd.R_below RQ.out hb); have nRI := Aside0.mk (Kd.R_below RI.out hb); have nB := Aside0.mk (below_step HB.out hb); clear X RP RQ RI HB; (try clear hX0 hfX0); (try clear hX1 hfX1); (try clear hX2 hfX2); have X := nX; have RP := nRP; have RQ := nRQ; have RI := nRI; have HB := nB; clear nX nRP nRQ nRI nB hb; have hX1 := (blk_cell X.out 1).trans rfl; have hfX1 := blk_frozen X.out 1)
          | (go_at_call 70; (with_reducible refine (extended_at (Nat.succ_le_of_lt (blk_lt X.out)) RQ.out hq2 (fun b hb => (HK.out.q b hb)) HK.out.qb (by have := HK.out.ql; simp at this; omega)).mono ?_); rintro r w5 ⟨vq2, rfl, hr, hb⟩; obtain ⟨Ak, ck, rfl⟩ := Kd.R_slice hr; clear RQ; have nX := Aside0.mk (blk_below X.out hb); have nRP := Aside0.mk (Kd.R_below RP.out hb); have nRI := Aside0.mk (Kd.R_below RI.out hb); have nB := Aside0.mk (below_step HB.out hb); clear X RP RI HB; (try clear hX0 hfX0); (try clear hX1 hfX1); (try clear hX2 hfX2); have X := nX; have RP := nRP; have RI := nRI; have HB := nB; clear nX nRP nRI nB hb; have hX1 := (blk_cell X.out 1).trans rfl; have hfX1 := blk_frozen X.out 1; have RQ := Aside0.mk hr; clear hr))
        have nX := Aside0.mk (blk_put X.out 1 (.slice Ak (ints (put s.quiet (q ^^^ 2 ^ j))).length ck) rfl)
        have nRP := Aside0.mk (rowP_far RP.out (p := ⟨W.heap.size, 1, none⟩) (by simp only; omega) (.slice Ak (ints (put s.quiet (q ^^^ 2 ^ j))).length ck))
        have nRQ := Aside0.mk (row_far RQ.out (p := ⟨W.heap.size, 1, none⟩) (by simp only; omega) (.slice Ak (ints (put s.quiet (q ^^^ 2 ^ j))).length ck))
        have nRI := Aside0.mk (row_far RI.out (p := ⟨W.heap.size, 1, none⟩) (by simp only; omega) (.slice Ak (ints (put s.quiet (q ^^^ 2 ^ j))).length ck))
        have nB := Aside0.mk (below_set (j := 1) (v := .slice Ak (ints (put s.quiet (q ^^^ 2 ^ j))).length ck) HB.out (Nat.le_refl _))
        clear X RP RQ RI HB; (try clear hX0 hfX0); (try clear hX1 hfX1); (try clear hX2 hfX2)
        generalize w5.setCell ⟨W.heap.size, 1, none⟩ (.slice Ak (ints (put s.quiet (q ^^^ 2 ^ j))).length ck) = w6 at *
        go_wp2
        go_roundw
        case rel =>
          refine ⟨j + 1, by omega, by go_num, ⟨?_⟩, nB⟩
          rw [hst]
          unfold svAdd
          rw [HRE.out]
          simp only [if_true]
          exact ⟨_, _, _, nX.out, nRP.out, nRQ.out, nRI.out⟩
        case measure => simp [intOf]; omega
      · have hne : ((a : Int) == 0) = false := by simp; exact e0
        go_upto_region 11 with (first
          | (go_at_call 71; (with_reducible refine RA.out.mono ?_); rintro r w4 ⟨rfl, hb⟩; clear RA; have nX := Aside0.mk (blk_below X.out hb); have nRP := Aside0.mk (Kd.R_below RP.out hb); have nRQ := Aside0.mk (Kd.R_below RQ.out hb); have nRI := Aside0.mk (Kd.R_below RI.out hb); have nB := Aside0.mk (below_step HB.out hb); clear X RP RQ RI HB; (try clear hX0 hfX0); (try clear hX1 hfX1); (try clear hX2 hfX2); have X := nX; have RP := nRP; have RQ := nRQ; have RI := nRI; have HB := nB; clear nX nRP nRQ nRI nB hb; have hX0 := (blk_cell X.out 0).trans rfl; have hfX0 := blk_frozen X.out 0)
          | ((with_reducible refine gate_builtin (b := .append) (xs := #[.tmp 51, .tmp 55]) rfl ?_); at_builtin; refine Kd.R_append pairK (w0 := w4) (W.heap.size + 1) rfl (.tmp 51) (.tmp 55) 78 92 (.agg #[.int .i64 0, .int .i64 0]) 16 rfl Try.underlying78 infoP rfl (by decide) (by decide) (.slice Ap s.ps.length cp) (s.ps.map pairI) (pairI (a, q ^^^ 2 ^ j)) [.int .i64 (a : Int), .int .i64 ((q ^^^ 2 ^ j : Nat) : Int)] (fun _ => True) (fun _ => False) rfl (by first | (go_simp; done) | (go_simp; rfl)) ⟨[_], [_], rfl, rfl, rfl⟩ (fun _ hk => hk.elim) (fun _ _ => trivial) RP.out (Below.refl _ _) (Nat.succ_le_of_lt (blk_lt X.out)) (by rw [List.length_map]; omega) ?_; intro v5 w5 ho hb hg _; obtain ⟨A5, c5, rfl⟩ := Kd.R_slice ho; have nX := Aside0.mk ((hb.block W.heap.size (Nat.lt_succ_self _)).trans X.out); have nQ := Aside0.mk (rInt_grown RQ.out hg (rInt_apart RQ.out RP.out (by decide))); have nI := Aside0.mk (rInt_grown RI.out hg (rInt_apart RI.out RP.out (by decide))); have nB := Aside0.mk (HB.out.trans (hb.mono (Nat.le_succ _))); clear X RP RQ RI HB hb hg hX0 hfX0; have X := nX; have RP := Aside0.mk ho; have RQ := nQ; have RI := nI; have HB := nB; clear nX nQ nI nB ho; have hX0 := (blk_cell X.out 0).trans rfl; have hfX0 := blk_frozen X.out 0))
        have hl5 : (s.ps.map pairI ++ [pairI (a, q ^^^ 2 ^ j)]).length = s.ps.length + 1 := by simp
        have RP5 := RP.out
        rw [hl5] at RP5
        have nX := Aside0.mk (blk_put X.out 0 (.slice A5 (s.ps.length + 1) c5) rfl)
        have nRP := Aside0.mk (rowP_far RP5 (p := ⟨W.heap.size, 0, none⟩) (by simp only; omega) (.slice A5 (s.ps.length + 1) c5))
        have nRQ := Aside0.mk (row_far RQ.out (p := ⟨W.heap.size, 0, none⟩) (by simp only; omega) (.slice A5 (s.ps.length + 1) c5))
        have nRI := Aside0.mk (row_far RI.out (p := ⟨W.heap.size, 0, none⟩) (by simp only; omega) (.slice A5 (s.ps.length + 1) c5))
        have nB := Aside0.mk (below_set (j := 0) (v := .slice A5 (s.ps.length + 1) c5) HB.out (Nat.le_refl _))
        clear X RP RP5 RQ RI HB hX0 hfX0
        generalize w5.setCell ⟨W.heap.size, 0, none⟩ (.slice A5 (s.ps.length + 1) c5) = w6 at *
        go_wp2
        go_roundw
        case rel =>
          refine ⟨j + 1, by omega, by go_num, ⟨?_⟩, nB⟩
          rw [hst]
          unfold svAdd
          rw [HRE.out]
          simp only [e0, if_false]
          refine ⟨_, _, _, nX.out, ?_, nRQ.out, nRI.out⟩
          rw [List.map_append]
          exact nRP.out
        case measure => simp [intOf]; omega
    · go_wp2
      go_ret
      rw [List.take_of_length_le (by omega)] at HS
      exact ⟨_, rfl, Nat.le_refl _, HS.out, HB.out⟩
theorem isGraph_any {W : World} {v : Value} {l : List Int} (own : Bool) {b : Bool} (h : Rd W v l) (hr : good l = b) : Calls Try.prog 31 #[.agg #[v, .bool own]] W fun e W' => e = .returned (.bool b) ∧ Below W.heap.size W W' := by
  obtain ⟨A, c, rfl, hc, hC, hl⟩ := h
  obtain ⟨K, hK⟩ := ev_get (impl_isGraph.ev l own)
  exact impl_isGraph.calls K A c l own b W hC hc ((hK K (Nat.le_refl _)).trans (by rw [hr]))
end Go.Proofs.Ytlohlngmagpepaa.Draw
