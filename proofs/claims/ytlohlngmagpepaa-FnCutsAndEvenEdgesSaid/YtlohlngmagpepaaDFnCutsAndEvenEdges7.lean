/- What is drawn for FnCutsAndEvenEdges: within bounds, whatever it is. -/
import Derived.Test.YtlohlngmagpepaaPFnCutsAndEvenEdgesx
import Derived.Test.YtlohlngmagpepaaQFnCutsAndEvenEdges0
import Derived.Test.YtlohlngmagpepaaQFnCutsAndEvenEdges1
import Derived.Test.YtlohlngmagpepaaM1
import Derived.Test.YtlohlngmagpepaaM44
import Derived.WalkKit
import Derived.RowKit3
import Derived.Deep.QuietTactic
import Derived.BigQuiet
import Derived.Deep.DeepCutAuto
import Derived.Deep.CutBlock
import Derived.Deep.LoopGhost
import Derived.Outline
import Derived.Deep.DeepFit
import Derived.Test.YtlohlngmagpepaaDFnCutsAndEvenEdges0
import Derived.Test.YtlohlngmagpepaaDFnCutsAndEvenEdges2
import Derived.Test.YtlohlngmagpepaaDFnCutsAndEvenEdges5
import Derived.Test.YtlohlngmagpepaaDFnCutsAndEvenEdges6
namespace Go.Proofs.Ytlohlngmagpepaa.Draw
open Go.RowKit Go.Proofs.Ytlohlngmagpepaa.PFnCutsAndEvenEdges Go.Proofs.YtlohlngmagpepaaW.PrintWords Go.Proofs.YtlohlngmagpepaaW.PrintLast Go.Proofs.YtlohlngmagpepaaW.PrintMore Go.Proofs.YtlohlngmagpepaaM Go.Proofs.Ytlohlngmagpepaa.Pure
attribute [local go_sem] max2_int min2_int max_two min_two max_three min_three max_four min_four
set_option linter.unusedVariables false
set_option linter.unusedSimpArgs false
variable {w0 w w1 W : World} {g : Nat} {a : Int}
def DrawGEP (W : World) (e : Ending) (W' : World) : Prop := ∃ (u : Value) (m : List Int) (own : Bool) (u2 : Value) (E : List (List Int)), e = .returned (.tuple #[.agg #[u, .bool own], u2]) ∧ Nw W W' u m ∧ (RdE W' u2 E ∧ E.length ≤ 200 ∧ ∀ e ∈ E, e.length ≤ 1000) ∧ Below W.heap.size W W'
def OwnE (W : World) (lo : Nat) (v : Value) (E : List (List Int)) : Prop := Kd.N (Kd.slice 3 (Kd.int .i64)) 24 W lo (fun k => lo ≤ k) v E
theorem OwnE.keep {W W' : World} {lo : Nat} {v : Value} {E : List (List Int)} (h : OwnE W lo v E) (hk : KeepBut W W' g none) (hg : g < lo) : OwnE W' lo v E := Kd.N_keep h hk (fun k (hk : lo ≤ k) => by omega)
theorem OwnE.far {W : World} {lo : Nat} {v : Value} {E : List (List Int)} (h : OwnE W lo v E) {p : Addr} (hp : p.block < lo) (u : Value) : OwnE (W.setCell p u) lo v E := Kd.N_far h (fun k (hk : lo ≤ k) => by omega) u
theorem OwnE.nil (W : World) (lo : Nat) : OwnE W lo (.slice none 0 0) [] := Kd.N_nil _ _ _ _ _
theorem OwnE.below {W W' : World} {lo : Nat} {v : Value} {E : List (List Int)} (h : OwnE W lo v E) (hb : Below W.heap.size W W') : OwnE W' lo v E := Kd.N_below h hb
theorem OwnE.rd {W : World} {lo : Nat} {v : Value} {E : List (List Int)} (h : OwnE W lo v E) (hl : E.length ≤ 1048576) : RdE W v E := RdE.ofN (show Kd.N (Kd.slice 3 (Kd.int .i64)) 24 W lo (fun k => lo ≤ k) v E from h) hl
def ShortE (n : Nat) (E : List (List Int)) : Prop := E.length ≤ n ∧ ∀ e ∈ E, e.length ≤ 1000
theorem ShortE.snoc {n m : Nat} {E : List (List Int)} (h : ShortE n E) {e : List Int} (he : e.length ≤ 1000) (hm : n + 1 ≤ m) : ShortE m (E ++ [e]) := ⟨by have := h.1; simp; omega, fun x hx => by
  rcases List.mem_append.1 hx with hx | hx
  · exact h.2 x hx
  · rw [List.mem_singleton.1 hx]; exact he⟩
theorem ShortE.le {n m : Nat} {E : List (List Int)} (h : ShortE n E) (hm : n ≤ m) : ShortE m E := ⟨Nat.le_trans h.1 hm, h.2⟩
theorem edges_half (l : List Int) : ∀ (d i : Nat), 2 * (edgesFrom l i d).length + d ≤ d * d
  | 0, _ => by simp [edgesFrom]
  | d + 1, i => by
    have h1 := edges_half l d (i + 1)
    have h2 := rowEdges_length l i d (i + 1)
    rw [show edgesFrom l i (d + 1) = rowEdges l i (i + 1) d ++ edgesFrom l (i + 1) d from rfl, List.length_append]
    have h3 : (d + 1) * (d + 1) = d * d + 2 * d + 1 := by rw [Nat.add_mul, Nat.mul_add]; omega
    omega
theorem edges_short {l : List Int} (hG : GoodG l) : ShortE 128 (edgesOf l) ∧ ∀ k, (hk : k < (edgesOf l).length) → ∃ x y : Nat, (edgesOf l)[k] = [(x : Int), (y : Int)] := by
  have he : (edgesOf l).length ≤ 128 := by
    have h1 := edges_half l l.length 0
    have h2 : l.length * l.length ≤ 16 * 16 := Nat.mul_le_mul hG.top hG.top
    unfold edgesOf
    omega
  refine ⟨⟨he, fun e h => ?_⟩, fun k hk => ?_⟩
  · obtain ⟨x, y, rfl, _⟩ := edgesFrom_pairs l l.length 0 e h
    simp
  · obtain ⟨x, y, hxy, _⟩ := edgesFrom_pairs l l.length 0 _ (List.getElem_mem (l := edgesOf l) hk)
    exact ⟨x, y, hxy⟩
theorem grEdges_rd {W : World} {v : Value} {l : List Int} (own : Bool) (h : Rd W v l) (hG : GoodG l) : Calls Try.prog 35 #[.agg #[v, .bool own]] W fun e W' => ∃ v0 : Value, e = .returned v0 ∧ Kd.S (Kd.slice 3 (Kd.int .i64)) 24 W' W.heap.size (fun _ => True) v0 (edgesOf l) ∧ Below W.heap.size W W' := by
  obtain ⟨A, c, rfl, hc, hC, hl⟩ := h
  obtain ⟨K, hK⟩ := ev_get (spec_grEdges.ev l own hG)
  exact spec_grEdges.calls K _ _ l own _ W hC hc (hK K (Nat.le_refl _))
theorem circle_gd (n : Int) (own : Bool) (w : World) (h0 : 3 ≤ n) (hn : n ≤ 16) : Calls Try.prog 37 #[.int .i64 n, .bool own] w fun e w' => ∃ (v : Value) (l : List Int), e = .returned (.agg #[v, .bool own]) ∧ Aside0 (GoodG l) ∧ Kd.R (Kd.int .i64) 3 w' w.heap.size (fun _ => True) v l ∧ Below w.heap.size w w' := by
  obtain ⟨m, rfl⟩ := Int.eq_ofNat_of_zero_le (show 0 ≤ n by omega)
  obtain ⟨K, hK⟩ := ev_get (spec_grCircle.ev m own (by omega) (by omega))
  exact (spec_grCircle.calls K (m : Int) own _ own w (hK K (Nat.le_refl _))).mono fun _ _ ⟨v, he, h1, h2⟩ => ⟨v, _, he, ⟨circleL_good (by omega) (by omega)⟩, h1, h2⟩
theorem row_get {W : World} {e base n c : Nat} {ok : Nat → Prop} {A : Option Addr} {E : List (List Int)} (h : Kd.N (Kd.slice 3 (Kd.int .i64)) e W base ok (.slice A n c) E) {x : Int} (h0 : 0 ≤ x) (h1 : x < n) :
    ∃ ad B k c2, A = some ad ∧ W.cell? (ad.add x.toNat) = some (.slice B k c2) ∧ Kd.FK (Kd.slice 3 (Kd.int .i64)) W ok (E.getD x.toNat []) [.slice B k c2] := by
  obtain ⟨ad, cs, e1, hl, hF, hcell, _⟩ := Kd.F_get (Kd.N_F h) [] x h0 h1
  obtain ⟨B, c2, e2, _⟩ := Kd.FK_now hF
  subst e2
  have h2 := hcell 0 _ rfl
  rw [show x.toNat * (Kd.slice 3 (Kd.int .i64)).sz + 0 = x.toNat from Nat.mul_one _] at h2
  exact ⟨ad, _, _, _, e1, h2, hF⟩
theorem row_first {W : World} {e base : Nat} {ok : Nat → Prop} {v : Value} {E : List (List Int)} (h : Kd.N (Kd.slice 3 (Kd.int .i64)) e W base ok v E) (hp : 0 < E.length) :
    ∃ ad c B k c2, v = .slice (some ad) E.length c ∧ W.cell? ad = some (.slice B k c2) ∧ Kd.FK (Kd.slice 3 (Kd.int .i64)) W (fun k => ok k ∧ some k ≠ v.ownBlock) (E.getD 0 []) [.slice B k c2] := by
  obtain ⟨g, cap, rfl, _, _, _⟩ := Kd.N_form h hp
  obtain ⟨cs, hl, hF, hcell⟩ := Kd.N_get h [] 0 (by omega) (by omega)
  obtain ⟨B, c2, e2, _⟩ := Kd.FK_now hF
  subst e2
  have h2 := hcell 0 _ rfl
  exact ⟨_, _, _, _, _, rfl, by rw [← add_zero_ ⟨g, 0, none⟩]; exact h2, hF⟩
def oddOnes : List (List Int) := [[1, 0], [0], [0, 16], [-1, 0], [0, 1]]
theorem odd_reps {W : World} {ok : Nat → Prop} {a b c d e : Value} (h1 : Kd.FK (Kd.slice 3 (Kd.int .i64)) W ok [1, 0] [a]) (h2 : Kd.FK (Kd.slice 3 (Kd.int .i64)) W ok [0] [b]) (h3 : Kd.FK (Kd.slice 3 (Kd.int .i64)) W ok [0, 16] [c]) (h4 : Kd.FK (Kd.slice 3 (Kd.int .i64)) W ok [-1, 0] [d]) (h5 : Kd.FK (Kd.slice 3 (Kd.int .i64)) W ok [0, 1] [e]) : Reps (Kd.FK (Kd.slice 3 (Kd.int .i64)) W ok) (Kd.slice 3 (Kd.int .i64)).sz [[1, 0], [0], [0, 16], [-1, 0], [0, 1]] [a, b, c, d, e] :=
  Reps.one h1 (Reps.one h2 (Reps.one h3 (Reps.one h4 (Reps.one h5 (Reps.none _ _)))))
theorem lit5_run {ρ : Operand → Value} {o : Oper} {W : World} {x1 x2 x3 x4 x5 : Operand} {A1 A2 A3 A4 A5 : Option Addr} {n1 n2 n3 n4 n5 c1 c2 c3 c4 c5 : Nat} (ho : o.op = Op.buildSlice 29 5 #[(0, x1), (1, x2), (2, x3), (3, x4), (4, x5)])
    (h1 : ρ x1 = .slice A1 n1 c1) (h2 : ρ x2 = .slice A2 n2 c2) (h3 : ρ x3 = .slice A3 n3 c3) (h4 : ρ x4 = .slice A4 n4 c4) (h5 : ρ x5 = .slice A5 n5 c5) :
    (execOp ρ o).run Try.prog W = .ok (.value (.slice (some ⟨W.heap.size, 0, none⟩) 5 5)) (W.alloc (.cells [.slice A1 n1 c1, .slice A2 n2 c2, .slice A3 n3 c3, .slice A4 n4 c4, .slice A5 n5 c5].toArray 24)) := by
  have hu := Try.underlying29
  have hi := info24
  unfold execOp
  rw [ho]
  simp only [List.map_toArray, List.map_cons, List.map_nil, h1, h2, h3, h4, h5]
  go_simp
theorem odd_short {x : Nat} (h : x < 5) : (oddOnes.getD x []).length ≤ 1000 := by
  have : x = 0 ∨ x = 1 ∨ x = 2 ∨ x = 3 ∨ x = 4 := by omega
  rcases this with rfl | rfl | rfl | rfl | rfl <;> decide
set_option maxRecDepth 100000 in
set_option maxHeartbeats 8000000 in
theorem DrawIsEvenEdges_any {W : World} {v : Value} {l0 : List Int} (h : Rb W v l0) : Calls Try.prog 13 #[v] W (DrawGEP W) := by
  obtain ⟨A, c, rfl, hcl, hr, hx⟩ := h
  have hu := Try.underlying26
  have huc := Try.underlying56
  have HW := Aside0.mk (below_alloc (Below.refl W.heap.size W) (.cells #[.slice none 0 0, .bool false] 26))
  have X := Aside0.mk (blk_new W (.cells #[.slice none 0 0, .bool false] 26))
  have HR0 := Aside0.mk (Kd.C_alloc hr (.cells #[.slice none 0 0, .bool false] 26))
  have HXX := Aside0.mk hx
  clear hr hx hcl
  go_enter Try.func13, Try.ntmps13
  go_upto_region 1 with (fail)
  generalize W.alloc (.cells #[.slice none 0 0, .bool false] 26) = w1 at *
  have HC := Aside0.mk (Cur.new w1 A c l0 HR0.out HXX.out)
  have hXg := Nat.ne_of_lt (blk_lt X.out)
  have hXl := blk_lt X.out
  have hRg : w1.heap.size < (w1.alloc (Obj.cells #[Value.slice A l0.length c, Value.int IntKind.i64 0, Value.int IntKind.u64 0] 56)).heap.size := by simp
  go_upto_region 3 with (go_at_call 33; (with_reducible refine (graph_any _ _ HC.out (by omega) (by omega) (by omega)).mono ?_); rintro e w2 ⟨z, l, own, rfl, hr, hll, hc, hk⟩; obtain ⟨A2, c2, rfl⟩ := Kd.R_slice hr; have nR := Aside0.mk hr; clear hr; have hXx := blk_alloc X.out (.cells #[.slice A l0.length c, .int .i64 0, .int .u64 0] 56); have nX := Aside0.mk (hk.blk hXx hXg (by simp)); have nC := Aside0.mk hc; have hYG := hc.lt; clear hc hk hXx HC X; have HC := nC; have X := nX; have R := nR; clear nC nX nR)
  have hY2 := blk_lt X.out
  have nY := Aside0.mk (blk_new w2 (.cells #[.slice A2 l.length c2, .bool own] 26)); have nC := Aside0.mk (HC.out.alloc (.cells #[.slice A2 l.length c2, .bool own] 26)); have nX := Aside0.mk (blk_alloc X.out (.cells #[.slice A2 l.length c2, .bool own] 26)); have nR := Aside0.mk (Kd.R_alloc R.out (.cells #[.slice A2 l.length c2, .bool own] 26)); clear HC X R; generalize World.alloc w2 (.cells #[.slice A2 l.length c2, .bool own] 26) = w3 at *; have HC := nC; clear nC; have hYg : w2.heap.size ≠ _ := Nat.ne_of_gt hYG; have Y := nY; clear nY; have X := nX; clear nX; have R := nR; clear nR
  (try clear hY0 hY1 fY0 fY1); have hY0 := (blk_cell Y.out 0).trans rfl; have hY1 := (blk_cell Y.out 1).trans rfl; have fY0 := blk_frozen Y.out 0; have fY1 := blk_frozen Y.out 1
  have hRo := Aside0.mk (Own.of R.out)
  clear R
  have R := hRo
  clear hRo
  have hYv : w2.heap.size + 1 ≤ w3.heap.size := blk_lt Y.out
  have hg3 : w1.heap.size < w3.heap.size := by omega
  have hOL : (w1.alloc (Obj.cells #[Value.slice A l0.length c, Value.int IntKind.i64 0, Value.int IntKind.u64 0] 56)).heap.size ≤ w3.heap.size := by simp; omega
  obtain ⟨gb, hq_⟩ : ∃ r, (good l) = r := ⟨_, rfl⟩; have GB := Aside0.mk hq_; clear hq_
  go_upto_if 15 with (go_at_call 34; (with_reducible refine (grGood_rd own (R.out.rd (by omega)) GB.out).mono ?_); rintro e w4 ⟨rfl, hb⟩; have hS := (Below.size hb : w3.heap.size ≤ w4.heap.size); have hc := HC.out.below hb; have hk := HC.out.keepB hb; have nHC := Aside0.mk hc; have nX := Aside0.mk (hk.blk (X.out) hXg (by simp)); have nY := Aside0.mk (hk.blk (Y.out) hYg (by simp)); have nR := Aside0.mk (Own.keep (R.out) hk hRg); (try clear hY0 hY1 fY0 fY1); (try clear hX0 hX1 fX0 fX1); (try clear hb); (try clear ho); (try clear hc hk); clear HC X Y R; have HC := nHC; clear nHC; have X := nX; clear nX; have Y := nY; clear nY; have R := nR; clear nR; (try clear hY0 hY1 fY0 fY1); have hY0 := (blk_cell Y.out 0).trans rfl; have hY1 := (blk_cell Y.out 1).trans rfl; have fY0 := blk_frozen Y.out 0; have fY1 := blk_frozen Y.out 1; (try clear hX0 hX1 fX0 fX1); have hX0 := (blk_cell X.out 0).trans rfl; have hX1 := (blk_cell X.out 1).trans rfl; have fX0 := blk_frozen X.out 0; have fX1 := blk_frozen X.out 1)
  go_cut [6] (fun v6 wc => ∃ E : List (List Int), Aside0 (ShortE 128 E) ∧ w3.heap.size ≤ wc.heap.size ∧ Aside0 (OwnE wc w3.heap.size v6 E) ∧ Aside0 (Cur w1 w1.heap.size 100000 wc) ∧ Aside0 (wc.heap[W.heap.size]? = some (.cells #[.slice none 0 0, .bool false] 26 (0, 0))) ∧ Aside0 (wc.heap[w2.heap.size]? = some (.cells #[.slice A2 l.length c2, .bool own] 26 (0, 0))) ∧ Aside0 (Own wc (w1.alloc (Obj.cells #[Value.slice A l0.length c, Value.int IntKind.i64 0, Value.int IntKind.u64 0] 56)).heap.size w3.heap.size (.slice A2 l.length c2) l))
  case first => as_aux_lemma =>
    cases gb
    · go_wp2
      go_meet
      case rel => exact ⟨[], ⟨by simp [ShortE]⟩, hS, ⟨OwnE.nil _ _⟩, ⟨HC.out.le (by omega)⟩, X, Y, R⟩
    · have hG := (good_iff l).1 GB.out
      obtain ⟨hsh, hpr⟩ := edges_short hG
      have HGG := Aside0.mk hG
      have HSH := Aside0.mk hsh
      have HPR := Aside0.mk hpr
      clear hG hsh hpr
      go_wp2_with (go_at_call 35; (with_reducible refine (grEdges_rd own (R.out.rd (by omega)) HGG.out).mono ?_); rintro e w5 ⟨v0, rfl, hs, hb⟩; obtain ⟨Ae, ce, rfl, _, _⟩ := Kd.R_reads (Kd.S_R hs); have HE := Aside0.mk (Kd.R_F (Kd.R_mono (Kd.R_bound (Kd.S_R hs)) (ok' := fun k => w3.heap.size ≤ k ∧ some k ≠ (Value.slice none 0 0).ownBlock) (fun k hk => ⟨Nat.le_trans hS hk.2.1, by simp [Value.ownBlock]⟩))); have nS := Nat.le_trans hS (Below.size hb); clear hs hS; have hS := nS; clear nS; have hc := HC.out.below hb; have hk := HC.out.keepB hb; have nHC := Aside0.mk hc; have nX := Aside0.mk (hk.blk (X.out) hXg (by simp)); have nY := Aside0.mk (hk.blk (Y.out) hYg (by simp)); have nR := Aside0.mk (Own.keep (R.out) hk hRg); (try clear hY0 hY1 fY0 fY1); (try clear hX0 hX1 fX0 fX1); (try clear hb); (try clear ho); (try clear hc hk); clear HC X Y R; have HC := nHC; clear nHC; have X := nX; clear nX; have Y := nY; clear nY; have R := nR; clear nR; (try clear hY0 hY1 fY0 fY1); have hY0 := (blk_cell Y.out 0).trans rfl; have hY1 := (blk_cell Y.out 1).trans rfl; have fY0 := blk_frozen Y.out 0; have fY1 := blk_frozen Y.out 1; (try clear hX0 hX1 fX0 fX1); have hX0 := (blk_cell X.out 0).trans rfl; have hX1 := (blk_cell X.out 1).trans rfl; have fX0 := blk_frozen X.out 0; have fX1 := blk_frozen X.out 1)
      generalize edgesOf l = E at *
      go_loopw [6, 19] (fun v6 v19 wr => ∃ (k : Nat) (V : List (List Int)), k ≤ E.length ∧ v19 = .int .i64 (k : Int) ∧ Aside0 (ShortE k V) ∧ w3.heap.size ≤ wr.heap.size ∧ Aside0 (OwnE wr w3.heap.size v6 V) ∧ Aside0 (Kd.F (Kd.slice 3 (Kd.int .i64)) wr (fun k => w3.heap.size ≤ k ∧ some k ≠ v6.ownBlock) Ae E.length E) ∧ Aside0 (Cur w1 w1.heap.size (1000 + 2 * k) wr) ∧ Aside0 (wr.heap[W.heap.size]? = some (.cells #[.slice none 0 0, .bool false] 26 (0, 0))) ∧ Aside0 (wr.heap[w2.heap.size]? = some (.cells #[.slice A2 l.length c2, .bool own] 26 (0, 0))) ∧ Aside0 (Own wr (w1.alloc (Obj.cells #[Value.slice A l0.length c, Value.int IntKind.i64 0, Value.int IntKind.u64 0] 56)).heap.size w3.heap.size (.slice A2 l.length c2) l)) (fun _ v19 _ => E.length - (intOf v19).toNat)
      case atStart => exact ⟨0, [], Nat.zero_le _, rfl, ⟨by simp [ShortE]⟩, hS, ⟨OwnE.nil _ _⟩, HE, ⟨HC.out.le (by omega)⟩, X, Y, R⟩
      case round =>
        clear HE HC X Y R hS hY0 hY1 fY0 fY1 hX0 hX1 fX0 fX1
        obtain ⟨k, V, hk, rfl, HVL, hS, HV, HE, HC, X, Y, R⟩ := hrel
        have hk128 : k ≤ 128 := by have := HSH.out.1; omega
        by_cases hlt : k < E.length
        · obtain ⟨x, y, hxy⟩ := HPR.out k hlt
          obtain ⟨ad, ae, ce2, rfl, hc1, _, _, hfk⟩ := edge_foot HE.out hlt (x := (x : Int)) (y := (y : Int)) (by rw [List.getD_eq_getElem?_getD, List.getElem?_eq_getElem hlt, Option.getD_some, hxy])
          have HFK := Aside0.mk hfk
          clear hfk hxy
          go_upto_if 25 with (go_at_call 36; (with_reducible refine (one_any _ _ HC.out (by omega)).mono ?_); rintro e w5 ⟨b, rfl, hc, hk⟩; have nV := Aside0.mk (HV.out.keep hk hg3); have nE := Aside0.mk (Kd.F_keep HE.out hk (fun k h => by omega)); have nF := Aside0.mk (Kd.FK_step HFK.out (fun k ho hlt => hk.2 k hlt (by omega) (by simp))); clear hc1 HV HE HFK; have HV := nV; have HE := nE; have HFK := nF; clear nV nE nF; have nHC := Aside0.mk hc; have nX := Aside0.mk (hk.blk (X.out) hXg (by simp)); have nY := Aside0.mk (hk.blk (Y.out) hYg (by simp)); have nR := Aside0.mk (Own.keep (R.out) hk hRg); have nhS := Nat.le_trans hS hk.1; (try clear hb); (try clear ho); (try clear hc hk); clear HC X Y R hS; have HC := nHC; clear nHC; have X := nX; clear nX; have Y := nY; clear nY; have R := nR; clear nR; have hS := nhS; clear nhS)
          cases b
          · go_wp2_with (((with_reducible refine gate_builtin (b := .append) (xs := #[.tmp 26, .tmp 28]) rfl ?_); at_builtin; refine Kd.N_append (Kd.slice 3 (Kd.int .i64)) w3.heap.size rfl (.tmp 26) (.tmp 28) 29 24 (.slice none 0 0) 24 rfl Try.underlying29 info24 rfl (by decide) (by omega) u6 V [(x : Int), (y : Int)] [.slice (some ae) 2 ce2] (fun k => w3.heap.size ≤ k) (fun k => w3.heap.size ≤ k ∧ some k ≠ u6.ownBlock) rfl (by first | (go_simp; done) | (go_simp; rfl)) ?aP (fun k hk => hk) (fun k hk => Nat.le_trans hS hk) HV.out (Below.refl _ _) ?aS ?aL ?_; (case aP => exact HFK.out); (case aS => exact hS); (case aL => have := HVL.out.1; omega); intro v7 w7 ho hb hg hat; have nV := Aside0.mk ho; have nE := Aside0.mk (Kd.F_after HE.out hg hat); clear HV HE HFK ho hg hat; have nHC := Aside0.mk (HC.out.low hb (by omega) (by omega)); have nX := Aside0.mk (blk_low X.out hb (by omega)); have nY := Aside0.mk (blk_low Y.out hb (by omega)); have nR := Aside0.mk (R.out.low hb (by omega)); have nhS := Nat.le_trans hS hb.size; (try clear hb); (try clear ho); (try clear hc hk); clear HC X Y R hS; have HC := nHC; clear nHC; have X := nX; clear nX; have Y := nY; clear nY; have R := nR; clear nR; have hS := nhS; clear nhS; have HV := nV; have HE := nE; clear nV nE))
            go_roundw
            case rel => exact ⟨k + 1, _, by omega, by go_num, ⟨HVL.out.snoc (by simp) (Nat.le_refl _)⟩, hS, HV, HE, ⟨HC.out.le (by omega)⟩, X, Y, R⟩
            case measure => simp [intOf]; omega
          · go_wp2
            go_roundw
            case rel => exact ⟨k + 1, V, by omega, by go_num, ⟨HVL.out.le (by omega)⟩, hS, HV, HE, ⟨HC.out.le (by omega)⟩, X, Y, R⟩
            case measure => simp [intOf]; omega
        · go_wp2
          go_meet
          case rel => exact ⟨V, ⟨HVL.out.le (by omega)⟩, hS, HV, ⟨HC.out.le (by omega)⟩, X, Y, R⟩
  case rest => as_aux_lemma =>
    clear HC X Y R hS hY0 hY1 fY0 fY1 hX0 hX1 fX0 fX1
    obtain ⟨V, HVL, hS, HV, HC, X, Y, R⟩ := hcut
    (try clear hY0 hY1 fY0 fY1); have hY0 := (blk_cell Y.out 0).trans rfl; have hY1 := (blk_cell Y.out 1).trans rfl; have fY0 := blk_frozen Y.out 0; have fY1 := blk_frozen Y.out 1
    go_upto_if 32 with (go_at_call 36; (with_reducible refine (one_any _ _ HC.out (by omega)).mono ?_); rintro e w5 ⟨b, rfl, hc, hk⟩; have nV := Aside0.mk (HV.out.keep hk hg3); clear HV; have HV := nV; clear nV; have nHC := Aside0.mk hc; have nX := Aside0.mk (hk.blk (X.out) hXg (by simp)); have nY := Aside0.mk (hk.blk (Y.out) hYg (by simp)); have nR := Aside0.mk (Own.keep (R.out) hk hRg); have nhS := Nat.le_trans hS hk.1; (try clear hY0 hY1 fY0 fY1); (try clear hX0 hX1 fX0 fX1); (try clear hb); (try clear ho); (try clear hc hk); clear HC X Y R hS; have HC := nHC; clear nHC; have X := nX; clear nX; have Y := nY; clear nY; have R := nR; clear nR; have hS := nhS; clear nhS; (try clear hY0 hY1 fY0 fY1); have hY0 := (blk_cell Y.out 0).trans rfl; have hY1 := (blk_cell Y.out 1).trans rfl; have fY0 := blk_frozen Y.out 0; have fY1 := blk_frozen Y.out 1; (try clear hX0 hX1 fX0 fX1); have hX0 := (blk_cell X.out 0).trans rfl; have hX1 := (blk_cell X.out 1).trans rfl; have fX0 := blk_frozen X.out 0; have fX1 := blk_frozen X.out 1)
    go_cut [6] (fun v6 wc => ∃ (E : List (List Int)) (A5 : Option Addr) (c5 : Nat) (m : List Int) (o5 : Bool) (hi : Nat), Aside0 (ShortE 128 E) ∧ w3.heap.size ≤ hi ∧ hi ≤ wc.heap.size ∧ m.length ≤ 17 ∧ Aside0 (OwnE wc hi v6 E) ∧ Aside0 (Cur w1 w1.heap.size 200000 wc) ∧ Aside0 (wc.heap[W.heap.size]? = some (.cells #[.slice none 0 0, .bool false] 26 (0, 0))) ∧ Aside0 (wc.heap[w2.heap.size]? = some (.cells #[.slice A5 m.length c5, .bool o5] 26 (0, 0))) ∧ Aside0 (Own wc (w1.alloc (Obj.cells #[Value.slice A l0.length c, Value.int IntKind.i64 0, Value.int IntKind.u64 0] 56)).heap.size hi (.slice A5 m.length c5) m))
    case first => as_aux_lemma =>
      cases b
      · go_wp2
        go_meet
        case rel => exact ⟨V, A2, c2, l, own, w3.heap.size, HVL, Nat.le_refl _, hS, by omega, HV, ⟨HC.out.le (by omega)⟩, X, Y, R⟩
      · go_upto_region 13 with (first
          | (go_at_call 38; (with_reducible refine (pick_any _ _ HC.out (by omega)).mono ?_); rintro e w6 ⟨t, rfl, ht0, ht1, ht, hc, hk⟩; (try clear HV R); have nHC := Aside0.mk hc; have nX := Aside0.mk (hk.blk (X.out) hXg (by simp)); have nY := Aside0.mk (hk.blk (Y.out) hYg (by simp)); have nhS := Nat.le_trans hS hk.1; (try clear hY0 hY1 fY0 fY1); (try clear hX0 hX1 fX0 fX1); (try clear hb); (try clear ho); (try clear hc hk); clear HC X Y hS; have HC := nHC; clear nHC; have X := nX; clear nX; have Y := nY; clear nY; have hS := nhS; clear nhS; (try clear hY0 hY1 fY0 fY1); have hY0 := (blk_cell Y.out 0).trans rfl; have hY1 := (blk_cell Y.out 1).trans rfl; have fY0 := blk_frozen Y.out 0; have fY1 := blk_frozen Y.out 1; (try clear hX0 hX1 fX0 fX1); have hX0 := (blk_cell X.out 0).trans rfl; have hX1 := (blk_cell X.out 1).trans rfl; have fX0 := blk_frozen X.out 0; have fX1 := blk_frozen X.out 1)
          | (go_at_call 37; (with_reducible refine (circle_gd (3 + t) true _ (by omega) (by have h := ht.out; omega)).mono ?_); rintro e w7 ⟨z, m, rfl, HGM, hr, hb⟩; obtain ⟨Az, cz, rfl⟩ := Kd.R_slice hr; have hS6 := hS; have HZ := Aside0.mk hr; clear hr; have hc := HC.out.below hb; have hk := HC.out.keepB hb; have nHC := Aside0.mk hc; have nX := Aside0.mk (hk.blk (X.out) hXg (by simp)); have nY := Aside0.mk (hk.blk (Y.out) hYg (by simp)); have nhS := Nat.le_trans hS hk.1; (try clear hY0 hY1 fY0 fY1); (try clear hX0 hX1 fX0 fX1); (try clear hb); (try clear ho); (try clear hc hk); clear HC X Y hS; have HC := nHC; clear nHC; have X := nX; clear nX; have Y := nY; clear nY; have hS := nhS; clear nhS; (try clear hY0 hY1 fY0 fY1); have hY0 := (blk_cell Y.out 0).trans rfl; have hY1 := (blk_cell Y.out 1).trans rfl; have fY0 := blk_frozen Y.out 0; have fY1 := blk_frozen Y.out 1; (try clear hX0 hX1 fX0 fX1); have hX0 := (blk_cell X.out 0).trans rfl; have hX1 := (blk_cell X.out 1).trans rfl; have fX0 := blk_frozen X.out 0; have fX1 := blk_frozen X.out 1))
        have hyz := blk_lt Y.out
        have hGM := HGM.out
        have hm16 := hGM.top
        have nR := Aside0.mk (Kd.R_put2 (u := .slice Az m.length cz) (x := .bool true) HZ.out (b := w2.heap.size) (by omega))
        have nC := Aside0.mk (HC.out.put2 (b := w2.heap.size) (by omega) hYg (.slice Az m.length cz) (.bool true))
        have nX := Aside0.mk (blk_far (blk_far X.out (p := ⟨w2.heap.size, 0, none⟩) (by simp only; omega) (.slice Az m.length cz)) (p := ⟨w2.heap.size, 1, none⟩) (by simp only; omega) (.bool true))
        have nY := Aside0.mk (put2_blk Y.out (.slice Az m.length cz) (.bool true))
        have hB8 : w3.heap.size ≤ ((w7.setCell ⟨w2.heap.size, 0, none⟩ (.slice Az m.length cz)).setCell ⟨w2.heap.size, 1, none⟩ (.bool true)).heap.size := by simpa [World.setCell] using hS
        clear HZ HC X Y hY0 hY1 fY0 fY1 hX0 hX1 fX0 fX1 hGM
        generalize (w7.setCell ⟨w2.heap.size, 0, none⟩ (.slice Az m.length cz)).setCell ⟨w2.heap.size, 1, none⟩ (.bool true) = w8 at *
        have R := Aside0.mk (show Own w8 (w1.alloc (Obj.cells #[Value.slice A l0.length c, Value.int IntKind.i64 0, Value.int IntKind.u64 0] 56)).heap.size w8.heap.size (.slice Az m.length cz) m from Kd.R_lower (Kd.R_mono (Kd.R_bound nR.out) (fun k hk => ⟨by have := hk.2.1; omega, hk.2.2.1⟩)) (by omega))
        have HC := nC
        have X := nX
        have Y := nY
        clear nR nC nX nY hS
        have hS := hB8
        (try clear hY0 hY1 fY0 fY1); have hY0 := (blk_cell Y.out 0).trans rfl; have hY1 := (blk_cell Y.out 1).trans rfl; have fY0 := blk_frozen Y.out 0; have fY1 := blk_frozen Y.out 1
        obtain ⟨hsh, _⟩ := edges_short HGM.out
        have HSH := Aside0.mk hsh
        clear hsh
        go_wp2_with (go_at_call 35; (with_reducible refine (grEdges_rd true (R.out.rd (by omega)) HGM.out).mono ?_); rintro e w9 ⟨v0, rfl, hs, hb⟩; have HV := Aside0.mk (show OwnE w9 w8.heap.size v0 (edgesOf m) from Kd.R_N (Kd.R_mono (Kd.R_bound (Kd.S_R hs)) (fun k hk => hk.2.1))); have hS9 := Below.size hb; clear hs; have hc := HC.out.below hb; have hk := HC.out.keepB hb; have nHC := Aside0.mk hc; have nX := Aside0.mk (hk.blk (X.out) hXg (by simp)); have nY := Aside0.mk (hk.blk (Y.out) hYg (by simp)); have nR := Aside0.mk (Own.keep (R.out) hk hRg); have nhS := Nat.le_trans hS hk.1; (try clear hY0 hY1 fY0 fY1); (try clear hX0 hX1 fX0 fX1); (try clear hb); (try clear ho); (try clear hc hk); clear HC X Y R hS; have HC := nHC; clear nHC; have X := nX; clear nX; have Y := nY; clear nY; have R := nR; clear nR; have hS := nhS; clear nhS; (try clear hY0 hY1 fY0 fY1); have hY0 := (blk_cell Y.out 0).trans rfl; have hY1 := (blk_cell Y.out 1).trans rfl; have fY0 := blk_frozen Y.out 0; have fY1 := blk_frozen Y.out 1; (try clear hX0 hX1 fX0 fX1); have hX0 := (blk_cell X.out 0).trans rfl; have hX1 := (blk_cell X.out 1).trans rfl; have fX0 := blk_frozen X.out 0; have fX1 := blk_frozen X.out 1)
        go_meet
        case rel => exact ⟨_, Az, cz, m, true, w8.heap.size, HSH, hB8, hS9, by omega, HV, ⟨HC.out.le (by omega)⟩, X, Y, R⟩
    case rest => as_aux_lemma =>
      clear HV HVL HC X Y R hS hY0 hY1 fY0 fY1 hX0 hX1 fX0 fX1
      obtain ⟨V, A5, c5, m, o5, hi, HVL, hhi, hS, hm17, HV, HC, X, Y, R⟩ := hcut
      have hg3 : w1.heap.size < hi := by omega
      (try clear hY0 hY1 fY0 fY1); have hY0 := (blk_cell Y.out 0).trans rfl; have hY1 := (blk_cell Y.out 1).trans rfl; have fY0 := blk_frozen Y.out 0; have fY1 := blk_frozen Y.out 1
      (try clear hX0 hX1 fX0 fX1); have hX0 := (blk_cell X.out 0).trans rfl; have hX1 := (blk_cell X.out 1).trans rfl; have fX0 := blk_frozen X.out 0; have fX1 := blk_frozen X.out 1
      go_upto_region 15 with (go_at_call 38; (with_reducible refine (pick_any _ _ HC.out (by omega)).mono ?_); rintro e w6 ⟨t, rfl, ht0, ht1, ht, hc, hk⟩; have nV := Aside0.mk (HV.out.keep hk hg3); clear HV; have HV := nV; clear nV; have nHC := Aside0.mk hc; have nX := Aside0.mk (hk.blk (X.out) hXg (by simp)); have nY := Aside0.mk (hk.blk (Y.out) hYg (by simp)); have nR := Aside0.mk (Own.keep (R.out) hk hRg); have nhS := Nat.le_trans hS hk.1; (try clear hY0 hY1 fY0 fY1); (try clear hX0 hX1 fX0 fX1); (try clear hb); (try clear ho); (try clear hc hk); clear HC X Y R hS; have HC := nHC; clear nHC; have X := nX; clear nX; have Y := nY; clear nY; have R := nR; clear nR; have hS := nhS; clear nhS; (try clear hY0 hY1 fY0 fY1); have hY0 := (blk_cell Y.out 0).trans rfl; have hY1 := (blk_cell Y.out 1).trans rfl; have fY0 := blk_frozen Y.out 0; have fY1 := blk_frozen Y.out 1; (try clear hX0 hX1 fX0 fX1); have hX0 := (blk_cell X.out 0).trans rfl; have hX1 := (blk_cell X.out 1).trans rfl; have fX0 := blk_frozen X.out 0; have fX1 := blk_frozen X.out 1)
      by_cases e0 : t = 0
      · subst e0
        go_upto_region 20 with (first
        | ((with_reducible refine gate_dst (N := 44) rfl ?_); refine Kd.R_lit (Kd.int .i64) _ 3 ?hg (N := 44) ?hd (xs := ([1, 0] : List Int)) (inner := [.int .i64 1, .int .i64 0]) (ok := fun _ => True) (okp := fun _ => True) ?hr ?hp (fun _ hk => hk) trivial (Below.refl _ _) (Nat.le_refl _) (by simp) ?_; (case hd => rfl); (case hg => rfl); (case hr => first | (go_simp; done) | (go_simp; rfl)); (case hp => exact (Reps.one (show Kd.M (Kd.int .i64) _ _ _ (1 : Int) [.int .i64 1] from rfl) (Reps.one (show Kd.M (Kd.int .i64) _ _ _ (0 : Int) [.int .i64 0] from rfl) (Reps.none _ _)))); intro q1 v1 ho hb hg_ hn_; clear hg_ hn_; obtain ⟨Aq1, cq1, eq1⟩ := Kd.R_slice ho; rw [show ([1, 0] : List Int).length = 2 from rfl] at eq1; subst eq1; have HF1 := Aside0.mk (Kd.FK_of_M (d := Kd.slice 3 (Kd.int .i64)) (base := 0) (ok := fun k => hi ≤ k ∧ some k ≠ u6.ownBlock) ⟨_, rfl, Kd.R_lower (Kd.R_mono (Kd.R_bound ho) (fun k hk => ⟨Nat.le_trans hS hk.2.1, fun e => by have h1 := Kd.N_lt HV.out k e.symm; have h2 := hk.2.1; omega⟩)) (Nat.zero_le _)⟩); have nV := Aside0.mk (HV.out.below hb); clear HV ho; have HV := nV; clear nV; have hc := HC.out.below hb; have hk := HC.out.keepB hb; have nHC := Aside0.mk hc; have nX := Aside0.mk (hk.blk (X.out) hXg (by simp)); have nY := Aside0.mk (hk.blk (Y.out) hYg (by simp)); have nR := Aside0.mk (Own.keep (R.out) hk hRg); have nhS := Nat.le_trans hS hk.1; (try clear hY0 hY1 fY0 fY1); (try clear hX0 hX1 fX0 fX1); (try clear hb); (try clear ho); (try clear hc hk); clear HC X Y R hS; have HC := nHC; clear nHC; have X := nX; clear nX; have Y := nY; clear nY; have R := nR; clear nR; have hS := nhS; clear nhS; (try clear hY0 hY1 fY0 fY1); have hY0 := (blk_cell Y.out 0).trans rfl; have hY1 := (blk_cell Y.out 1).trans rfl; have fY0 := blk_frozen Y.out 0; have fY1 := blk_frozen Y.out 1; (try clear hX0 hX1 fX0 fX1); have hX0 := (blk_cell X.out 0).trans rfl; have hX1 := (blk_cell X.out 1).trans rfl; have fX0 := blk_frozen X.out 0; have fX1 := blk_frozen X.out 1; (try simp only [Act.put, List.setIfInBounds_toArray, List.set_cons_zero, List.set_cons_succ]))
        | ((with_reducible refine gate_dst (N := 45) rfl ?_); refine Kd.R_lit (Kd.int .i64) _ 3 ?hg (N := 45) ?hd (xs := ([0] : List Int)) (inner := [.int .i64 0]) (ok := fun _ => True) (okp := fun _ => True) ?hr ?hp (fun _ hk => hk) trivial (Below.refl _ _) (Nat.le_refl _) (by simp) ?_; (case hd => rfl); (case hg => rfl); (case hr => first | (go_simp; done) | (go_simp; rfl)); (case hp => exact (Reps.one (show Kd.M (Kd.int .i64) _ _ _ (0 : Int) [.int .i64 0] from rfl) (Reps.none _ _))); intro q2 v2 ho hb hg_ hn_; clear hg_ hn_; obtain ⟨Aq2, cq2, eq2⟩ := Kd.R_slice ho; rw [show ([0] : List Int).length = 1 from rfl] at eq2; subst eq2; have HF2 := Aside0.mk (Kd.FK_of_M (d := Kd.slice 3 (Kd.int .i64)) (base := 0) (ok := fun k => hi ≤ k ∧ some k ≠ u6.ownBlock) ⟨_, rfl, Kd.R_lower (Kd.R_mono (Kd.R_bound ho) (fun k hk => ⟨Nat.le_trans hS hk.2.1, fun e => by have h1 := Kd.N_lt HV.out k e.symm; have h2 := hk.2.1; omega⟩)) (Nat.zero_le _)⟩); have nF1 := Aside0.mk (Kd.FK_below HF1.out hb); clear HF1; have HF1 := nF1; clear nF1; have nV := Aside0.mk (HV.out.below hb); clear HV ho; have HV := nV; clear nV; have hc := HC.out.below hb; have hk := HC.out.keepB hb; have nHC := Aside0.mk hc; have nX := Aside0.mk (hk.blk (X.out) hXg (by simp)); have nY := Aside0.mk (hk.blk (Y.out) hYg (by simp)); have nR := Aside0.mk (Own.keep (R.out) hk hRg); have nhS := Nat.le_trans hS hk.1; (try clear hY0 hY1 fY0 fY1); (try clear hX0 hX1 fX0 fX1); (try clear hb); (try clear ho); (try clear hc hk); clear HC X Y R hS; have HC := nHC; clear nHC; have X := nX; clear nX; have Y := nY; clear nY; have R := nR; clear nR; have hS := nhS; clear nhS; (try clear hY0 hY1 fY0 fY1); have hY0 := (blk_cell Y.out 0).trans rfl; have hY1 := (blk_cell Y.out 1).trans rfl; have fY0 := blk_frozen Y.out 0; have fY1 := blk_frozen Y.out 1; (try clear hX0 hX1 fX0 fX1); have hX0 := (blk_cell X.out 0).trans rfl; have hX1 := (blk_cell X.out 1).trans rfl; have fX0 := blk_frozen X.out 0; have fX1 := blk_frozen X.out 1; (try simp only [Act.put, List.setIfInBounds_toArray, List.set_cons_zero, List.set_cons_succ]))
        | ((with_reducible refine gate_dst (N := 46) rfl ?_); refine Kd.R_lit (Kd.int .i64) _ 3 ?hg (N := 46) ?hd (xs := ([0, 16] : List Int)) (inner := [.int .i64 0, .int .i64 16]) (ok := fun _ => True) (okp := fun _ => True) ?hr ?hp (fun _ hk => hk) trivial (Below.refl _ _) (Nat.le_refl _) (by simp) ?_; (case hd => rfl); (case hg => rfl); (case hr => first | (go_simp; done) | (go_simp; rfl)); (case hp => exact (Reps.one (show Kd.M (Kd.int .i64) _ _ _ (0 : Int) [.int .i64 0] from rfl) (Reps.one (show Kd.M (Kd.int .i64) _ _ _ (16 : Int) [.int .i64 16] from rfl) (Reps.none _ _)))); intro q3 v3 ho hb hg_ hn_; clear hg_ hn_; obtain ⟨Aq3, cq3, eq3⟩ := Kd.R_slice ho; rw [show ([0, 16] : List Int).length = 2 from rfl] at eq3; subst eq3; have HF3 := Aside0.mk (Kd.FK_of_M (d := Kd.slice 3 (Kd.int .i64)) (base := 0) (ok := fun k => hi ≤ k ∧ some k ≠ u6.ownBlock) ⟨_, rfl, Kd.R_lower (Kd.R_mono (Kd.R_bound ho) (fun k hk => ⟨Nat.le_trans hS hk.2.1, fun e => by have h1 := Kd.N_lt HV.out k e.symm; have h2 := hk.2.1; omega⟩)) (Nat.zero_le _)⟩); have nF1 := Aside0.mk (Kd.FK_below HF1.out hb); have nF2 := Aside0.mk (Kd.FK_below HF2.out hb); clear HF1 HF2; have HF1 := nF1; clear nF1; have HF2 := nF2; clear nF2; have nV := Aside0.mk (HV.out.below hb); clear HV ho; have HV := nV; clear nV; have hc := HC.out.below hb; have hk := HC.out.keepB hb; have nHC := Aside0.mk hc; have nX := Aside0.mk (hk.blk (X.out) hXg (by simp)); have nY := Aside0.mk (hk.blk (Y.out) hYg (by simp)); have nR := Aside0.mk (Own.keep (R.out) hk hRg); have nhS := Nat.le_trans hS hk.1; (try clear hY0 hY1 fY0 fY1); (try clear hX0 hX1 fX0 fX1); (try clear hb); (try clear ho); (try clear hc hk); clear HC X Y R hS; have HC := nHC; clear nHC; have X := nX; clear nX; have Y := nY; clear nY; have R := nR; clear nR; have hS := nhS; clear nhS; (try clear hY0 hY1 fY0 fY1); have hY0 := (blk_cell Y.out 0).trans rfl; have hY1 := (blk_cell Y.out 1).trans rfl; have fY0 := blk_frozen Y.out 0; have fY1 := blk_frozen Y.out 1; (try clear hX0 hX1 fX0 fX1); have hX0 := (blk_cell X.out 0).trans rfl; have hX1 := (blk_cell X.out 1).trans rfl; have fX0 := blk_frozen X.out 0; have fX1 := blk_frozen X.out 1; (try simp only [Act.put, List.setIfInBounds_toArray, List.set_cons_zero, List.set_cons_succ]))
        | ((with_reducible refine gate_dst (N := 47) rfl ?_); refine Kd.R_lit (Kd.int .i64) _ 3 ?hg (N := 47) ?hd (xs := ([-1, 0] : List Int)) (inner := [.int .i64 (-1), .int .i64 0]) (ok := fun _ => True) (okp := fun _ => True) ?hr ?hp (fun _ hk => hk) trivial (Below.refl _ _) (Nat.le_refl _) (by simp) ?_; (case hd => rfl); (case hg => rfl); (case hr => first | (go_simp; done) | (go_simp; rfl)); (case hp => exact (Reps.one (show Kd.M (Kd.int .i64) _ _ _ (-1 : Int) [.int .i64 (-1)] from rfl) (Reps.one (show Kd.M (Kd.int .i64) _ _ _ (0 : Int) [.int .i64 0] from rfl) (Reps.none _ _)))); intro q4 v4 ho hb hg_ hn_; clear hg_ hn_; obtain ⟨Aq4, cq4, eq4⟩ := Kd.R_slice ho; rw [show ([-1, 0] : List Int).length = 2 from rfl] at eq4; subst eq4; have HF4 := Aside0.mk (Kd.FK_of_M (d := Kd.slice 3 (Kd.int .i64)) (base := 0) (ok := fun k => hi ≤ k ∧ some k ≠ u6.ownBlock) ⟨_, rfl, Kd.R_lower (Kd.R_mono (Kd.R_bound ho) (fun k hk => ⟨Nat.le_trans hS hk.2.1, fun e => by have h1 := Kd.N_lt HV.out k e.symm; have h2 := hk.2.1; omega⟩)) (Nat.zero_le _)⟩); have nF1 := Aside0.mk (Kd.FK_below HF1.out hb); have nF2 := Aside0.mk (Kd.FK_below HF2.out hb); have nF3 := Aside0.mk (Kd.FK_below HF3.out hb); clear HF1 HF2 HF3; have HF1 := nF1; clear nF1; have HF2 := nF2; clear nF2; have HF3 := nF3; clear nF3; have nV := Aside0.mk (HV.out.below hb); clear HV ho; have HV := nV; clear nV; have hc := HC.out.below hb; have hk := HC.out.keepB hb; have nHC := Aside0.mk hc; have nX := Aside0.mk (hk.blk (X.out) hXg (by simp)); have nY := Aside0.mk (hk.blk (Y.out) hYg (by simp)); have nR := Aside0.mk (Own.keep (R.out) hk hRg); have nhS := Nat.le_trans hS hk.1; (try clear hY0 hY1 fY0 fY1); (try clear hX0 hX1 fX0 fX1); (try clear hb); (try clear ho); (try clear hc hk); clear HC X Y R hS; have HC := nHC; clear nHC; have X := nX; clear nX; have Y := nY; clear nY; have R := nR; clear nR; have hS := nhS; clear nhS; (try clear hY0 hY1 fY0 fY1); have hY0 := (blk_cell Y.out 0).trans rfl; have hY1 := (blk_cell Y.out 1).trans rfl; have fY0 := blk_frozen Y.out 0; have fY1 := blk_frozen Y.out 1; (try clear hX0 hX1 fX0 fX1); have hX0 := (blk_cell X.out 0).trans rfl; have hX1 := (blk_cell X.out 1).trans rfl; have fX0 := blk_frozen X.out 0; have fX1 := blk_frozen X.out 1; (try simp only [Act.put, List.setIfInBounds_toArray, List.set_cons_zero, List.set_cons_succ]))
        | ((with_reducible refine gate_dst (N := 48) rfl ?_); refine Kd.R_lit (Kd.int .i64) _ 3 ?hg (N := 48) ?hd (xs := ([0, 1] : List Int)) (inner := [.int .i64 0, .int .i64 1]) (ok := fun _ => True) (okp := fun _ => True) ?hr ?hp (fun _ hk => hk) trivial (Below.refl _ _) (Nat.le_refl _) (by simp) ?_; (case hd => rfl); (case hg => rfl); (case hr => first | (go_simp; done) | (go_simp; rfl)); (case hp => exact (Reps.one (show Kd.M (Kd.int .i64) _ _ _ (0 : Int) [.int .i64 0] from rfl) (Reps.one (show Kd.M (Kd.int .i64) _ _ _ (1 : Int) [.int .i64 1] from rfl) (Reps.none _ _)))); intro q5 v5 ho hb hg_ hn_; clear hg_ hn_; obtain ⟨Aq5, cq5, eq5⟩ := Kd.R_slice ho; rw [show ([0, 1] : List Int).length = 2 from rfl] at eq5; subst eq5; have HF5 := Aside0.mk (Kd.FK_of_M (d := Kd.slice 3 (Kd.int .i64)) (base := 0) (ok := fun k => hi ≤ k ∧ some k ≠ u6.ownBlock) ⟨_, rfl, Kd.R_lower (Kd.R_mono (Kd.R_bound ho) (fun k hk => ⟨Nat.le_trans hS hk.2.1, fun e => by have h1 := Kd.N_lt HV.out k e.symm; have h2 := hk.2.1; omega⟩)) (Nat.zero_le _)⟩); have nF1 := Aside0.mk (Kd.FK_below HF1.out hb); have nF2 := Aside0.mk (Kd.FK_below HF2.out hb); have nF3 := Aside0.mk (Kd.FK_below HF3.out hb); have nF4 := Aside0.mk (Kd.FK_below HF4.out hb); clear HF1 HF2 HF3 HF4; have HF1 := nF1; clear nF1; have HF2 := nF2; clear nF2; have HF3 := nF3; clear nF3; have HF4 := nF4; clear nF4; have nV := Aside0.mk (HV.out.below hb); clear HV ho; have HV := nV; clear nV; have hc := HC.out.below hb; have hk := HC.out.keepB hb; have nHC := Aside0.mk hc; have nX := Aside0.mk (hk.blk (X.out) hXg (by simp)); have nY := Aside0.mk (hk.blk (Y.out) hYg (by simp)); have nR := Aside0.mk (Own.keep (R.out) hk hRg); have nhS := Nat.le_trans hS hk.1; (try clear hY0 hY1 fY0 fY1); (try clear hX0 hX1 fX0 fX1); (try clear hb); (try clear ho); (try clear hc hk); clear HC X Y R hS; have HC := nHC; clear nHC; have X := nX; clear nX; have Y := nY; clear nY; have R := nR; clear nR; have hS := nhS; clear nhS; (try clear hY0 hY1 fY0 fY1); have hY0 := (blk_cell Y.out 0).trans rfl; have hY1 := (blk_cell Y.out 1).trans rfl; have fY0 := blk_frozen Y.out 0; have fY1 := blk_frozen Y.out 1; (try clear hX0 hX1 fX0 fX1); have hX0 := (blk_cell X.out 0).trans rfl; have hX1 := (blk_cell X.out 1).trans rfl; have fX0 := blk_frozen X.out 0; have fX1 := blk_frozen X.out 1; (try simp only [Act.put, List.setIfInBounds_toArray, List.set_cons_zero, List.set_cons_succ]))
        | ((with_reducible refine gate_dst (N := 49) rfl ?_); refine Kd.N_lit (Kd.slice 3 (Kd.int .i64)) _ 24 ?hg (N' := 49) ?hd (xs := ([[1, 0], [0], [0, 16], [-1, 0], [0, 1]] : List (List Int))) (inner := [.slice Aq1 2 cq1, .slice Aq2 1 cq2, .slice Aq3 2 cq3, .slice Aq4 2 cq4, .slice Aq5 2 cq5]) (ok := fun k => hi ≤ k ∧ some k ≠ u6.ownBlock) (okp := fun k => hi ≤ k ∧ some k ≠ u6.ownBlock) ?hr ?hp (fun _ hk => hk) ⟨hS, fun e => Nat.lt_irrefl _ (Kd.N_lt HV.out _ e.symm)⟩ (Below.refl _ _) (Nat.le_refl _) (by simp [oddOnes]) ?_; (case hd => rfl); (case hg => rfl); (case hr => exact lit5_run rfl rfl rfl rfl rfl rfl); (case hp => exact odd_reps HF1.out HF2.out HF3.out HF4.out HF5.out); intro ql w10 hl hb hg_ hn_; clear hg_ hn_; obtain ⟨Al, cl, el⟩ := Kd.N_slice hl; rw [show ([[1, 0], [0], [0, 16], [-1, 0], [0, 1]] : List (List Int)).length = 5 from rfl] at el; subst el; have HLT := Aside0.mk (show Kd.N (Kd.slice 3 (Kd.int .i64)) _ _ _ _ _ oddOnes from hl); have nV := Aside0.mk (HV.out.below hb); clear HV HF1 HF2 HF3 HF4 HF5 hl; have HV := nV; clear nV; have hc := HC.out.below hb; have hk := HC.out.keepB hb; have nHC := Aside0.mk hc; have nX := Aside0.mk (hk.blk (X.out) hXg (by simp)); have nY := Aside0.mk (hk.blk (Y.out) hYg (by simp)); have nR := Aside0.mk (Own.keep (R.out) hk hRg); have nhS := Nat.le_trans hS hk.1; (try clear hY0 hY1 fY0 fY1); (try clear hX0 hX1 fX0 fX1); (try clear hb); (try clear ho); (try clear hc hk); clear HC X Y R hS; have HC := nHC; clear nHC; have X := nX; clear nX; have Y := nY; clear nY; have R := nR; clear nR; have hS := nhS; clear nhS; (try clear hY0 hY1 fY0 fY1); have hY0 := (blk_cell Y.out 0).trans rfl; have hY1 := (blk_cell Y.out 1).trans rfl; have fY0 := blk_frozen Y.out 0; have fY1 := blk_frozen Y.out 1; (try clear hX0 hX1 fX0 fX1); have hX0 := (blk_cell X.out 0).trans rfl; have hX1 := (blk_cell X.out 1).trans rfl; have fX0 := blk_frozen X.out 0; have fX1 := blk_frozen X.out 1)
        | (go_at_call 38; (with_reducible refine (pick_any _ _ HC.out (by omega)).mono ?_); rintro e w11 ⟨x, rfl, hx0, hx1, hx, hc, hk⟩; have hx5 : x < 5 := (by have h := hx.out; omega); obtain ⟨adl, Bl, kl, cl2, el, hcl, hfl⟩ := row_get (Kd.N_keep HLT.out hk (fun k h => by omega)) hx0 hx5; subst el; have HFK := Aside0.mk hfl; have nV := Aside0.mk (HV.out.keep hk hg3); clear HV HLT hfl; have HV := nV; clear nV; have nHC := Aside0.mk hc; have nX := Aside0.mk (hk.blk (X.out) hXg (by simp)); have nY := Aside0.mk (hk.blk (Y.out) hYg (by simp)); have nR := Aside0.mk (Own.keep (R.out) hk hRg); have nhS := Nat.le_trans hS hk.1; (try clear hY0 hY1 fY0 fY1); (try clear hX0 hX1 fX0 fX1); (try clear hb); (try clear ho); (try clear hc hk); clear HC X Y R hS; have HC := nHC; clear nHC; have X := nX; clear nX; have Y := nY; clear nY; have R := nR; clear nR; have hS := nhS; clear nhS; (try clear hY0 hY1 fY0 fY1); have hY0 := (blk_cell Y.out 0).trans rfl; have hY1 := (blk_cell Y.out 1).trans rfl; have fY0 := blk_frozen Y.out 0; have fY1 := blk_frozen Y.out 1; (try clear hX0 hX1 fX0 fX1); have hX0 := (blk_cell X.out 0).trans rfl; have hX1 := (blk_cell X.out 1).trans rfl; have fX0 := blk_frozen X.out 0; have fX1 := blk_frozen X.out 1)
        | ((with_reducible refine gate_builtin (b := .append) (xs := #[.tmp 43, .tmp 54]) rfl ?_); at_builtin; refine Kd.N_append (Kd.slice 3 (Kd.int .i64)) hi rfl (.tmp 43) (.tmp 54) 29 24 (.slice none 0 0) 24 rfl Try.underlying29 info24 rfl (by decide) (by omega) u6 V (oddOnes.getD x.toNat []) [.slice Bl kl cl2] (fun k => hi ≤ k) (fun k => hi ≤ k ∧ some k ≠ u6.ownBlock) rfl (by first | (go_simp; done) | (go_simp; rfl)) ?aP (fun k hk => hk) (fun k hk => Nat.le_trans hS hk) HV.out (Below.refl _ _) ?aS ?aL ?_; (case aP => exact HFK.out); (case aS => exact hS); (case aL => have := HVL.out.1; omega); intro v7 w12 ho hb hg hat; have nV := Aside0.mk (show OwnE _ hi v7 _ from ho); have nL := Aside0.mk (HVL.out.snoc (m := 129) (odd_short (x := x.toNat) (by omega)) (by omega)); clear HV HFK HVL ho hg hat hcl; have nHC := Aside0.mk (HC.out.low hb (by omega) (by omega)); have nX := Aside0.mk (blk_low X.out hb (by omega)); have nY := Aside0.mk (blk_low Y.out hb (by omega)); have nR := Aside0.mk (R.out.low hb (by omega)); have nhS := Nat.le_trans hS hb.size; (try clear hY0 hY1 fY0 fY1); (try clear hX0 hX1 fX0 fX1); (try clear hb); (try clear ho); (try clear hc hk); clear HC X Y R hS; have HC := nHC; clear nHC; have X := nX; clear nX; have Y := nY; clear nY; have R := nR; clear nR; have hS := nhS; clear nhS; (try clear hY0 hY1 fY0 fY1); have hY0 := (blk_cell Y.out 0).trans rfl; have hY1 := (blk_cell Y.out 1).trans rfl; have fY0 := blk_frozen Y.out 0; have fY1 := blk_frozen Y.out 1; (try clear hX0 hX1 fX0 fX1); have hX0 := (blk_cell X.out 0).trans rfl; have hX1 := (blk_cell X.out 1).trans rfl; have fX0 := blk_frozen X.out 0; have fX1 := blk_frozen X.out 1; have HV := nV; have HVL := nL; clear nV nL))
        (go_wp2; refine bodyPost_ret (results_ct rfl _ _ W.heap.size 26 _ (0, 0) _ rfl (put2_blk X.out _ _) Try.underlying26 rfl (by kernel_rfl)) rfl ?_; exact ⟨_, m, o5, _, _, rfl, ⟨Kd.R_lower (row_far (row_far R.out (p := ⟨W.heap.size, 0, none⟩) (by simp only; omega) _) (p := ⟨W.heap.size, 1, none⟩) (by simp only; omega) _) (by omega), by omega⟩, ⟨((HV.out.far (p := ⟨W.heap.size, 0, none⟩) (by simp only; omega) _).far (p := ⟨W.heap.size, 1, none⟩) (by simp only; omega) _).rd (by have := HVL.out.1; omega), by have := HVL.out.1; omega, HVL.out.2⟩, below_set (below_set (below_step HW.out HC.out.base) (Nat.le_refl _)) (Nat.le_refl _)⟩)
      have e0b : (t == 0) = false := by simpa using e0
      by_cases e1 : t = 1
      · subst e1
        by_cases hv0 : 0 < V.length
        · obtain ⟨adv, cv, Bv, kv, cv2, rfl, hcv, hfv⟩ := row_first HV.out hv0
          have HFK := Aside0.mk hfv
          have hvs : (V.getD 0 []).length ≤ 1000 := HVL.out.2 _ (by rw [List.getD_eq_getElem?_getD, List.getElem?_eq_getElem hv0, Option.getD_some]; exact List.getElem_mem _)
          have HVS := Aside0.mk hvs
          have hv1 : (0 : Int) < (V.length : Int) := by omega
          have hv2 : decide ((V.length : Int) > 0) = true := decide_eq_true hv1
          have hv3 : decide (0 < V.length) = true := decide_eq_true hv0
          clear hfv hvs
          go_upto_region 20 with (((with_reducible refine gate_builtin (b := .append) (xs := #[.tmp 61, .tmp 65]) rfl ?_); at_builtin; refine Kd.N_append (Kd.slice 3 (Kd.int .i64)) hi rfl (.tmp 61) (.tmp 65) 29 24 (.slice none 0 0) 24 rfl Try.underlying29 info24 rfl (by decide) (by omega) (.slice (some adv) V.length cv) V (V.getD 0 []) [.slice Bv kv cv2] (fun k => hi ≤ k) (fun k => hi ≤ k ∧ some k ≠ (Value.slice (some adv) V.length cv).ownBlock) rfl (by first | (go_simp; done) | (go_simp; rfl)) ?aP (fun k hk => hk) (fun k hk => Nat.le_trans hS hk) HV.out (Below.refl _ _) ?aS ?aL ?_; (case aP => exact HFK.out); (case aS => exact hS); (case aL => have := HVL.out.1; omega); intro v7 w12 ho hb hg hat; have nV := Aside0.mk (show OwnE _ hi v7 _ from ho); have nL := Aside0.mk (HVL.out.snoc (m := 129) HVS.out (by omega)); clear HV HFK HVL ho hg hat hcv; have nHC := Aside0.mk (HC.out.low hb (by omega) (by omega)); have nX := Aside0.mk (blk_low X.out hb (by omega)); have nY := Aside0.mk (blk_low Y.out hb (by omega)); have nR := Aside0.mk (R.out.low hb (by omega)); have nhS := Nat.le_trans hS hb.size; (try clear hY0 hY1 fY0 fY1); (try clear hX0 hX1 fX0 fX1); (try clear hb); (try clear ho); (try clear hc hk); clear HC X Y R hS; have HC := nHC; clear nHC; have X := nX; clear nX; have Y := nY; clear nY; have R := nR; clear nR; have hS := nhS; clear nhS; (try clear hY0 hY1 fY0 fY1); have hY0 := (blk_cell Y.out 0).trans rfl; have hY1 := (blk_cell Y.out 1).trans rfl; have fY0 := blk_frozen Y.out 0; have fY1 := blk_frozen Y.out 1; (try clear hX0 hX1 fX0 fX1); have hX0 := (blk_cell X.out 0).trans rfl; have hX1 := (blk_cell X.out 1).trans rfl; have fX0 := blk_frozen X.out 0; have fX1 := blk_frozen X.out 1; have HV := nV; have HVL := nL; clear nV nL))
          (go_wp2; refine bodyPost_ret (results_ct rfl _ _ W.heap.size 26 _ (0, 0) _ rfl (put2_blk X.out _ _) Try.underlying26 rfl (by kernel_rfl)) rfl ?_; exact ⟨_, m, o5, _, _, rfl, ⟨Kd.R_lower (row_far (row_far R.out (p := ⟨W.heap.size, 0, none⟩) (by simp only; omega) _) (p := ⟨W.heap.size, 1, none⟩) (by simp only; omega) _) (by omega), by omega⟩, ⟨((HV.out.far (p := ⟨W.heap.size, 0, none⟩) (by simp only; omega) _).far (p := ⟨W.heap.size, 1, none⟩) (by simp only; omega) _).rd (by have := HVL.out.1; omega), by have := HVL.out.1; omega, HVL.out.2⟩, below_set (below_set (below_step HW.out HC.out.base) (Nat.le_refl _)) (Nat.le_refl _)⟩)
        · have hvn : V.length = 0 := by omega
          obtain rfl : V = [] := List.length_eq_zero_iff.1 hvn
          obtain ⟨av, cv, rfl⟩ := Kd.N_slice HV.out
          go_upto_region 20 with (fail)
          (go_wp2; refine bodyPost_ret (results_ct rfl _ _ W.heap.size 26 _ (0, 0) _ rfl (put2_blk X.out _ _) Try.underlying26 rfl (by kernel_rfl)) rfl ?_; exact ⟨_, m, o5, _, _, rfl, ⟨Kd.R_lower (row_far (row_far R.out (p := ⟨W.heap.size, 0, none⟩) (by simp only; omega) _) (p := ⟨W.heap.size, 1, none⟩) (by simp only; omega) _) (by omega), by omega⟩, ⟨((HV.out.far (p := ⟨W.heap.size, 0, none⟩) (by simp only; omega) _).far (p := ⟨W.heap.size, 1, none⟩) (by simp only; omega) _).rd (by have := HVL.out.1; omega), by have := HVL.out.1; omega, HVL.out.2⟩, below_set (below_set (below_step HW.out HC.out.base) (Nat.le_refl _)) (Nat.le_refl _)⟩)
      have e1b : (t == 1) = false := by simpa using e1
      go_upto_region 20 with (fail)
      (go_wp2; refine bodyPost_ret (results_ct rfl _ _ W.heap.size 26 _ (0, 0) _ rfl (put2_blk X.out _ _) Try.underlying26 rfl (by kernel_rfl)) rfl ?_; exact ⟨_, m, o5, _, _, rfl, ⟨Kd.R_lower (row_far (row_far R.out (p := ⟨W.heap.size, 0, none⟩) (by simp only; omega) _) (p := ⟨W.heap.size, 1, none⟩) (by simp only; omega) _) (by omega), by omega⟩, ⟨((HV.out.far (p := ⟨W.heap.size, 0, none⟩) (by simp only; omega) _).far (p := ⟨W.heap.size, 1, none⟩) (by simp only; omega) _).rd (by have := HVL.out.1; omega), by have := HVL.out.1; omega, HVL.out.2⟩, below_set (below_set (below_step HW.out HC.out.base) (Nat.le_refl _)) (Nat.le_refl _)⟩)
theorem specCutOf_rd {W : World} {v : Value} {l : List Int} (own : Bool) {s : Int} {r : List (List Int)} {ok : Bool} (h : Rd W v l) (hr : cutR l s = (r, ok)) : Calls Try.prog 7 #[.agg #[v, .bool own], .int .i64 s] W fun e W' => ∃ u, e = .returned (.tuple #[u, .bool ok]) ∧ RdE W' u r ∧ Below W.heap.size W W' := by
  obtain ⟨A, c, rfl, hc, hC, hl⟩ := h
  obtain ⟨K, hK⟩ := ev_get (spec_CutOf.ev l own s (by omega))
  exact (spec_CutOf.calls K A c l own s r ok W hC hc ((hK K (Nat.le_refl _)).trans (by rw [hr]))).mono fun _ _ ⟨u, he, h1, h2⟩ => ⟨u, he, RdE.ofS h1 (cutR_len hr), h2⟩
theorem EdgesOf_rd {W : World} {v : Value} {l : List Int} (own : Bool) (h : Rd W v l) (hG : GoodG l) : Calls Try.prog 9 #[.agg #[v, .bool own]] W fun e W' => ∃ u, e = .returned (.tuple #[u, .bool true]) ∧ RdE W' u (edgesOf l) ∧ Below W.heap.size W W' := by
  obtain ⟨A, c, rfl, hc, hC, hl⟩ := h
  obtain ⟨K, hK⟩ := ev_get (impl_EdgesOf.ev l own)
  have hr : edgesR l = (edgesOf l, true) := by unfold edgesR; rw [(good_iff l).2 hG]; rfl
  have he := edges_len hG
  exact (impl_EdgesOf.calls K A c l own _ _ W hC hc ((hK K (Nat.le_refl _)).trans (by rw [hr]))).mono fun _ _ ⟨u, he', h1, h2⟩ => ⟨u, he', RdE.ofS h1 (by omega), h2⟩
theorem hRows_rd {W : World} {v v2 : Value} {E E2 : List (List Int)} (h : RdE W v E) (h2 : RdE W v2 E2) (hE : ∀ e ∈ E, e.length ≤ 1000) : Calls Try.prog 8 #[v, v2] W fun e W' => e = .returned (.bool (decide (E = E2))) ∧ Below W.heap.size W W' := by
  obtain ⟨A, c, rfl, hc, hC, hl⟩ := h
  obtain ⟨A2, c2, rfl, hc2, hC2, hl2⟩ := h2
  obtain ⟨K, hK⟩ := ev_get (laws_hRows.ev E E2 (by omega) (fun e he => by have := hE e he; omega))
  exact (laws_hRows.calls K A c E A2 c2 E2 (decide (E = E2)) W hC hc hC2 hc2 (hK K (Nat.le_refl _))).mono fun _ _ ⟨he, hd⟩ => ⟨he, by obtain ⟨n, rfl⟩ := hd.out; exact pw_below_drewN (Below.refl _ _) n⟩
theorem DegreesWithin_rd {W : World} {v : Value} {l : List Int} (own : Bool) {s : Nat} (h : Rd W v l) (hG : GoodG l) (hs : s < 2 ^ l.length) : Calls Try.prog 10 #[.agg #[v, .bool own], .int .i64 (s : Int)] W fun e W' => ∃ u, e = .returned (.tuple #[u, .bool true]) ∧ Rd W' u (ints (degP l s l.length)) ∧ Below W.heap.size W W' := by
  obtain ⟨A, c, rfl, hc, hC, hl⟩ := h
  obtain ⟨K, hK⟩ := ev_get (impl_DegreesWithin.ev l own (s : Int))
  have hok : boardOk l (s : Int) = true := by
    unfold boardOk
    have hc := pow_cast l.length
    rw [(good_iff l).2 hG]
    simp [inSet]
    omega
  have hr : degR l (s : Int) = (ints (degP l s l.length), true) := by unfold degR; rw [hok, if_pos rfl, Int.toNat_natCast]
  have h3 := degP_len l s l.length
  have h4 := hG.top
  exact (impl_DegreesWithin.calls K A c l own (s : Int) _ _ W hC hc ((hK K (Nat.le_refl _)).trans (by rw [hr]))).mono fun _ _ ⟨u, he, h1, h2⟩ => ⟨u, he, Rd.of h1 (by rw [ints_length]; omega), h2⟩
theorem PartsOf_rd {W : World} {v : Value} {l : List Int} (own : Bool) (h : Rd W v l) (hG : GoodG l) : Calls Try.prog 23 #[.agg #[v, .bool own]] W fun e W' => ∃ a c, e = .returned (.tuple #[.slice a (partsUp (nbs l) l.length l.length).1.length c, .bool true]) ∧ Below W.heap.size W W' := by
  obtain ⟨A, c, rfl, hc, hC, hl⟩ := h
  obtain ⟨K, hK⟩ := ev_get (impl_PartsOf.ev l own)
  have hr : partsR l = (ints (partsUp (nbs l) l.length l.length).1, true) := by unfold partsR; rw [(good_iff l).2 hG]; rfl
  exact (impl_PartsOf.calls K A c l own (ints (partsUp (nbs l) l.length l.length).1) true W hC hc ((hK K (Nat.le_refl _)).trans (by rw [hr]))).mono fun _ _ ⟨u, he, h1, h2⟩ => by
    obtain ⟨a, b, rfl⟩ := Kd.R_slice h1
    rw [ints_length] at he
    exact ⟨a, b, he, h2⟩
theorem hSum_sem {W : World} {v : Value} {l : List Nat} (h : Rd W v (ints l)) (hs : l.sum < 4611686018427387904) : Calls Try.prog 12 #[v] W fun e W' => e = .returned (.int .i64 (l.sum : Int)) ∧ Below W.heap.size W W' := by
  obtain ⟨A, c, rfl, hc, hC, hl⟩ := h
  obtain ⟨K, hK⟩ := ev_get (laws_hSum.ev l (by rw [ints_length] at hl; omega) hs)
  exact (laws_hSum.calls K A c (ints l) _ W hC hc (hK K (Nat.le_refl _))).mono fun _ _ ⟨he, hn⟩ => ⟨he, Drawn0.below hn⟩
end Go.Proofs.Ytlohlngmagpepaa.Draw
