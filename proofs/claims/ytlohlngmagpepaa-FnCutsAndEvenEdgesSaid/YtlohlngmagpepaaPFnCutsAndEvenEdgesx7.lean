-- Written by a program of this session (wip/tools/mp.py) around the kit's printer; Lean checks it.
import Derived.Test.YtlohlngmagpepaaPFnCutsAndEvenEdgesx0
import Derived.Test.YtlohlngmagpepaaPFnCutsAndEvenEdgesx1
import Derived.Test.YtlohlngmagpepaaPFnCutsAndEvenEdgesx6
import Derived.LoopIn
import Derived.LoopNIn
import Derived.OwnWalkIn
import Derived.RangeFuncBound
import Derived.RangeFuncBox
import Derived.RangeFuncCalls
import Derived.RangeFuncLeaves
import Derived.RangeFuncNested
import Derived.Shelf.Abstract
import Derived.Shelf.RegionOpen
import Derived.Shelf.SlSortCmp.NoneTotal
import Derived.Sort.OwnSortedInts
import Derived.TacticsInMore
import Derived.WalkKit
namespace Go.Proofs.Ytlohlngmagpepaa.PFnCutsAndEvenEdges
open Go.RowKit Go.Proofs.YtlohlngmagpepaaW.PrintWords Go.Proofs.YtlohlngmagpepaaW.PrintLast Go.Proofs.YtlohlngmagpepaaW.PrintMore
attribute [local go_sem] max2_int min2_int max_two min_two max_three min_three max_four min_four   -- for this text's walks alone
set_option linter.unusedVariables false
set_option linter.unusedSimpArgs false
-- MANUAL
open Go.Shelf
attribute [local go_sem] Oper.semAt_some
def BackKp (n₀ Bs : Nat) (W W' : World) : Prop := Below n₀ W W' ∧ ∀ v, W.cell? ⟨Bs, 0, none⟩ = some v → W'.cell? ⟨Bs, 0, none⟩ = some v
theorem backKp_t {n₀ Bs : Nat} {A B C : World} (h : BackKp n₀ Bs A B) (k : BackKp n₀ Bs B C) : BackKp n₀ Bs A C := ⟨h.1.trans k.1, fun v hv => k.2 v (h.2 v hv)⟩
theorem backKp_b {n₀ Bs : Nat} {w : World} (hn : n₀ ≤ w.heap.size) (W : World) (l : Nat) (o o' : Obj) (hl : w.heap.size ≤ l) (h : W.heap[l]? = some o) (hc : o.isCells = false) (hw : o.isWalk = false) : BackKp n₀ Bs W (W.putObj l o') :=
  ⟨belowK_b hn W l o o' hl h hc hw, fun v hv => cell_kept hv (grownBy_putObj' W l o') (fun r e => by cases e; exact ⟨o, h, hc⟩)⟩
set_option maxRecDepth 100000 in
set_option maxHeartbeats 2000000 in
theorem slices_Backward.lit_in {σ : Type} (val : σ → Int) (F : Fence) (n : Nat) (h7 : F.fn 81) (hro : F.round = none) (hn : 1 ≤ n) (l Bs : Nat) (A : Option Addr) (c : Nat) (l0 : List Int) (zs : List σ) (hz : zs.map val = l0.reverse) (J Jx : List (Int × σ) → World → Prop) (w0 : World)
    (hY : ∀ pre x W, J pre W → pre.length < zs.length → YieldAt F (n - 1) Try.prog l #[.int .i64 x.1, .int .i64 (val x.2)] W fun e W' =>
      (e = .returned (.bool true) ∧ J (pre ++ [x]) W' ∧ BackKp w0.heap.size Bs W W') ∨ (e = .returned (.bool false) ∧ Jx (pre ++ [x]) W'))
    (W : World) (h0w : Below w0.heap.size w0 W) (hBs : W.cell? ⟨Bs, 0, none⟩ = some (.slice A l0.length c)) (hr : Kd.C (Kd.int .i64) w0 A l0.length l0) (h0 : J [] W) :
    CallsIn F n Try.prog 81 #[.func (.yield l) #[] #[], .pointer (some ⟨Bs, 0, none⟩)] W fun e W' => (∃ v, e = .returned v) ∧
      ((∃ ys, ys.map (fun y => y.2) = zs ∧ J ys W') ∨ (∃ pre : List (Int × σ), True ∧ Jx pre W')) := by
  have hm := Kd.C_max hr
  have hlen : zs.length = l0.length := by have := congrArg List.length hz; simpa using this
  refine callsIn_of_wp Try.func81 rfl h7 ?_ hro
  simp only [Try.ntmps81, List.size_toArray, List.length_cons, List.length_nil, Nat.reduceAdd, Nat.reduceSub, Array.replicate_succ, Array.replicate_zero, List.push_toArray, List.append_toArray, List.nil_append, List.cons_append]
  gi_wp2
  gi_loopw [3] (fun i wr => ∃ m : Nat, m ≤ l0.length ∧ i = .int .i64 ((m : Int) - 1) ∧ (∃ pre : List (Int × σ), pre.map (fun y => y.2) = zs.take (l0.length - m) ∧ J pre wr) ∧ Below w0.heap.size w0 wr ∧ wr.cell? ⟨Bs, 0, none⟩ = some (.slice A l0.length c))
    (fun i _ => (intOf i + 1).toNat)
  case atStart => exact ⟨l0.length, Nat.le_refl _, by go_num, ⟨[], by simp, h0⟩, h0w, hBs⟩
  case round =>
    obtain ⟨m, hml, rfl, ⟨pre, hp, hJs⟩, hb, hc⟩ := hrel
    cases m with
    | zero =>
      gi_wp2
      go_end0
      exact ⟨⟨_, rfl⟩, .inl ⟨pre, by rw [hp, Nat.sub_zero, ← hlen, List.take_length], hJs⟩⟩
    | succ m =>
      have hz1 : l0.length - (m + 1) < zs.length := by omega
      obtain ⟨ad, e1, hx⟩ := Kd.at_int (Kd.C_below hr hb) (m : Int) (by omega) (by omega)
      subst e1
      have hv : rd l0 (m : Int) = val zs[l0.length - (m + 1)] := by
        have h1 : (zs.map val)[l0.length - (m + 1)]'(by simpa using hz1) = l0.reverse[l0.length - (m + 1)]'(by simp; omega) := by simp only [hz]
        rw [List.getElem_map, List.getElem_reverse] at h1
        rw [h1]
        unfold rd
        simp only [Int.toNat_natCast, List.getD_eq_getElem?_getD]
        rw [List.getElem?_eq_getElem (by omega), Option.getD_some]
        congr 1
        omega
      rw [hv] at hx
      have hx2 : wr.cell? (ad.add m) = some (.int .i64 (val zs[l0.length - (m + 1)])) := by simpa using hx
      clear hx
      have hpl : pre.length < zs.length := by have := congrArg List.length hp; simp at this; omega
      obtain ⟨fn, tmps, assign, body, hy, hR⟩ := hY pre ((m : Int), zs[l0.length - (m + 1)]) wr hJs hpl
      dsimp only at hy
      have hi : ((m + 1 : Nat) : Int) - 1 = (m : Int) := by omega
      rw [hi]
      gi_wp2
      refine hR.mono ?_
      rintro e W3 (⟨rfl, hJ3, hk3⟩ | ⟨rfl, hJx3⟩)
      · gi_wp2
        go_roundw
        case rel => exact ⟨m, by omega, by go_num, ⟨pre ++ [((m : Int), zs[l0.length - (m + 1)])], by rw [List.map_append, hp, show l0.length - m = l0.length - (m + 1) + 1 by omega, List.take_succ_eq_append_getElem hz1]; rfl, hJ3⟩, hb.trans hk3.1, hk3.2 _ hc⟩
        case measure => simp [intOf]
      · gi_wp2
        refine bodyPost_ret (results_none rfl _ _ _) rfl ?_
        exact ⟨⟨_, rfl⟩, .inr ⟨_, trivial, hJx3⟩⟩
set_option maxHeartbeats 1000000 in
theorem slices_Backward.in_ (F : Fence) (n : Nat) (h5 : F.fn 78) (hro : F.round = none) (a : Option Addr) (len cap : Nat) (w : World) :
    CallsIn F n Try.prog 78 #[.slice a len cap] w fun e w' => e = .returned (.func (.func 81) #[] #[.pointer (some ⟨w.heap.size, 0, none⟩)]) ∧ w' = w.alloc (.cells #[.slice a len cap] 24) := by
  refine callsIn_of_wp Try.func78 rfl h5 ?_ hro
  simp only [Try.ntmps78, List.size_toArray, List.length_cons, List.length_nil, Nat.reduceAdd, Nat.reduceSub, Array.replicate_succ, Array.replicate_zero, List.push_toArray, List.append_toArray, List.nil_append, List.cons_append]
  gi_wp2
  go_ret
  exact ⟨rfl, rfl⟩
theorem slices_Backward.stops {σ : Type} (val : σ → Int) (F : Fence) (n : Nat) (h7 : F.fn 81) (hro : F.round = none) (hn : 1 ≤ n) (Bs : Nat) (A : Option Addr) (c : Nat) (l0 : List Int) (zs : List σ) (hz : zs.map val = l0.reverse) (w0 w : World) (h0w : Below w0.heap.size w0 w) (hB : Bs < w.heap.size)
    (hBs : w.cell? ⟨Bs, 0, none⟩ = some (.slice A l0.length c)) (hr : Kd.C (Kd.int .i64) w0 A l0.length l0) :
    SeqStopsK F n Try.prog 81 #[.pointer (some ⟨Bs, 0, none⟩)] (fun x : Int × σ => #[Value.int .i64 x.1, Value.int .i64 (val x.2)]) (BackKp w0.heap.size Bs) (fun ys => ys.map (fun y => y.2) = zs) (fun _ => True) zs.length w := fun l J Jx W hW _ _ hY h0 =>
  slices_Backward.lit_in val F n h7 hro hn l Bs A c l0 zs hz J Jx w0 hY W (h0w.trans (hW.mono h0w.size)) ((hW.cell (p := ⟨Bs, 0, none⟩) hB).trans hBs) hr h0
-- MANUAL
open Go.Shelf
attribute [local go_sem] Oper.semAt_some
def impl_reduced.step (k : Nat) (s x : Int) : Option Int := (impl_top.f k x).bind fun t => (impl_has.f s t).bind fun b => if b = true then some (Go.bits .xor .i64 s x) else some s
def impl_reduced.go (k : Nat) : List Int → Int → Option Int
  | [], s => some s
  | x :: r, s => (impl_reduced.step k s x).bind fun s1 => impl_reduced.go k r s1
def impl_reduced.f (k : Nat) (l0 : List Int) (a1 : Int) : Option Int := impl_reduced.go k l0.reverse a1
def impl_reduced.ok (k : Nat) (x : Int) : Prop := ∃ t, impl_top.f k x = some t ∧ 0 ≤ t
def impl_reduced.tot (k : Nat) (s x : Int) : Int := (impl_reduced.step k s x).getD 0
theorem impl_reduced.has_some (s t : Int) (h : 0 ≤ t) : ∃ b, impl_has.f s t = some b := by
  unfold impl_has.f
  rw [if_pos h]
  exact ⟨_, rfl⟩
theorem impl_reduced.step_ok {k : Nat} {s x s1 : Int} (h : impl_reduced.step k s x = some s1) : impl_reduced.ok k x := by
  unfold impl_reduced.step at h
  obtain ⟨t, ht, h⟩ := Option.bind_eq_some_iff.1 h
  obtain ⟨b, hb, h⟩ := Option.bind_eq_some_iff.1 h
  refine ⟨t, ht, ?_⟩
  unfold impl_has.f at hb
  split at hb
  · next e => exact e
  · cases hb
theorem impl_reduced.go_ok {k : Nat} : ∀ {l : List Int} {s r : Int}, impl_reduced.go k l s = some r → (∀ x ∈ l, impl_reduced.ok k x) ∧ l.foldl (impl_reduced.tot k) s = r
  | [], s, r, h => by
    simp only [impl_reduced.go, Option.some.injEq] at h
    exact ⟨fun x hx => by simp at hx, h⟩
  | x :: l, s, r, h => by
    unfold impl_reduced.go at h
    obtain ⟨s1, h1, h⟩ := Option.bind_eq_some_iff.1 h
    have ih := impl_reduced.go_ok h
    refine ⟨fun y hy => ?_, ?_⟩
    · rw [List.mem_cons] at hy
      rcases hy with rfl | hy
      · exact impl_reduced.step_ok h1
      · exact ih.1 y hy
    · rw [List.foldl_cons, show impl_reduced.tot k s x = s1 by unfold impl_reduced.tot; rw [h1]; rfl]
      exact ih.2
theorem impl_reduced.one {k : Nat} (s : Int) (x : Int) (h : impl_reduced.ok k x) : ∃ t b, impl_top.f k x = some t ∧ impl_has.f s t = some b ∧ impl_reduced.tot k s x = if b = true then Go.bits .xor .i64 s x else s := by
  obtain ⟨t, ht, h0⟩ := h
  obtain ⟨b, hb⟩ := impl_reduced.has_some s t h0
  refine ⟨t, b, ht, hb, ?_⟩
  unfold impl_reduced.tot impl_reduced.step
  rw [ht, Option.bind_some, hb, Option.bind_some]
  split <;> rfl
theorem impl_reduced.keeps_drewN (W : World) (m : Nat) : KeepsOthers W (W.drewN m) := ⟨Nat.le_refl _, fun _ _ h _ => h⟩
theorem impl_reduced.stay {B m : Nat} {w W : World} {s s' : Int} (hc : W.cell? ⟨B, 0, none⟩ = some (.int .i64 s)) (hf : W.frozen? ⟨B, 0, none⟩ = false) (hB : Below B w W) (e : s' = s) :
    KeepsOthers W (W.drewN m) ∧ BackKp B (B + 1) W (W.drewN m) ∧ (((W.drewN m).cell? ⟨B, 0, none⟩ = some (.int .i64 s') ∧ (W.drewN m).frozen? ⟨B, 0, none⟩ = false) ∧ Below B w (W.drewN m)) := by
  subst e
  exact ⟨impl_reduced.keeps_drewN W m, ⟨pw_below_drewN (Below.refl _ _) m, fun v hv => hv⟩, ⟨hc, hf⟩, pw_below_drewN hB m⟩
theorem impl_reduced.put {B m : Nat} {w W : World} {s s' v : Int} (hc : W.cell? ⟨B, 0, none⟩ = some (.int .i64 s)) (hf : W.frozen? ⟨B, 0, none⟩ = false) (hB : Below B w W) (e : s' = v) :
    KeepsOthers W ((W.drewN m).setCell ⟨B, 0, none⟩ (.int .i64 v)) ∧ BackKp B (B + 1) W ((W.drewN m).setCell ⟨B, 0, none⟩ (.int .i64 v)) ∧ ((((W.drewN m).setCell ⟨B, 0, none⟩ (.int .i64 v)).cell? ⟨B, 0, none⟩ = some (.int .i64 s') ∧ ((W.drewN m).setCell ⟨B, 0, none⟩ (.int .i64 v)).frozen? ⟨B, 0, none⟩ = false) ∧ Below B w ((W.drewN m).setCell ⟨B, 0, none⟩ (.int .i64 v))) := by
  subst e
  have hc2 : (W.drewN m).cell? ⟨B, 0, none⟩ = some (.int .i64 s) := hc
  refine ⟨(impl_reduced.keeps_drewN W m).trans (KeepsOthers.setCell _ _ _), ⟨(pw_below_drewN (Below.refl _ _) m).setCell (p := ⟨B, 0, none⟩) (Nat.le_refl _) _, fun v hv => ?_⟩, ⟨World.cell?_setCell_same' _ _ _ (by rw [hc2]; rfl), by rw [World.frozen?_setCell]; exact hf⟩, (pw_below_drewN hB m).setCell (p := ⟨B, 0, none⟩) (Nat.le_refl _) _⟩
  have hv2 : (W.drewN m).cell? ⟨B + 1, 0, none⟩ = some v := hv
  rw [World.cell?_setCell_other _ _ _ _ (fun e => by injection e with e1; omega)]
  exact hv2
set_option maxRecDepth 100000 in
set_option maxHeartbeats 2000000 in
theorem impl_reduced.calls (k : Nat) (A0 : Option Addr) (c0 : Nat) (l0 : List Int) (a1 : Int) (r : Int) (w : World) (hr0 : Kd.C (Kd.int .i64) w A0 l0.length l0) (hc0 : l0.length ≤ c0) (h : impl_reduced.f k l0 a1 = some r) :
    Calls Try.prog 72 #[.slice A0 l0.length c0, .int .i64 a1] w fun e w' => e = .returned (.int .i64 r) ∧ Below w.heap.size w w' := by
  obtain ⟨hok, hfold⟩ := impl_reduced.go_ok h
  obtain ⟨zs, hzs⟩ : ∃ zs : List {x : Int // impl_reduced.ok k x}, zs.map (fun y => y.1) = l0.reverse := ⟨l0.reverse.pmap Subtype.mk hok, by rw [List.map_pmap]; simp⟩
  rw [← hzs] at hfold
  clear h hok
  have HR := Aside0.mk hr0
  clear hr0 hc0
  refine (callsIn_wide (n := 5)).1 ?_
  refine callsIn_of_wp_marks Try.func72 rfl trivial ?_ rfl
  simp only [Try.ntmps72, List.size_toArray, List.length_cons, List.length_nil, Nat.reduceAdd, Nat.reduceSub, Array.replicate_succ, Array.replicate_zero, List.push_toArray, List.append_toArray, List.nil_append, List.cons_append]
  gi_wp2_with (refine ⟨trivial, ?_⟩; gi_at_call 78; refine (slices_Backward.in_ Fence.wide _ trivial rfl _ _ _ _).mono ?_; rintro e w' ⟨rfl, rfl⟩)
  have bS := Boxed.new w 3 (.int .i64 a1)
  have bN := Boxed.new (w.alloc (.cells #[.int .i64 a1] 3)) 24 (.slice A0 l0.length c0)
  rw [World.size_alloc] at bN
  have hB0 : Below w.heap.size w ((w.alloc (.cells #[.int .i64 a1] 3)).alloc (.cells #[.slice A0 l0.length c0] 24)) := ((Below.refl _ w).alloc (Nat.le_refl _) _).alloc (by simp) _
  refine wpIn_rangeFunc_ownF rfl (by omega) (gf := 81) (lb := #[.pointer (some ⟨w.heap.size + 1, 0, none⟩)]) rfl trivial (enters_of Try.func81 (by kernel_rfl) rfl)
    (slices_Backward.stops (fun y : {x : Int // impl_reduced.ok k x} => y.1) Fence.wide _ trivial rfl (by omega) (w.heap.size + 1) A0 c0 l0 zs hzs w _ hB0 (by simp) bN.cell HR.out) backKp_t (backKp_b (by simp; omega)) (Below.refl _ _) (fun _ => rfl)
    (fun pre W => (W.cell? ⟨w.heap.size, 0, none⟩ = some (.int .i64 ((pre.map (fun y => y.2.1)).foldl (impl_reduced.tot k) a1)) ∧ W.frozen? ⟨w.heap.size, 0, none⟩ = false) ∧ Below w.heap.size w W)
    (fun _ _ _ => False)
    (OwnFrom.and (Own.from (fun s A B row hs hg hr => ⟨cell_kept hs.1 hg hr, (frozen_kept hs.1 hg hr).trans hs.2⟩) _) (ownFrom_below (Nat.le_refl _) (by simp; omega)))
    (fun _ _ _ _ _ hs _ _ => hs)
    ⟨⟨(bS.alloc _).cell, (bS.alloc _).frozen⟩, hB0⟩
    (fun x => { tmps := #[.slice A0 l0.length c0, .int .i64 a1, undef, .pointer (some ⟨w.heap.size, 0, none⟩), .int .i64 0, undef, .int .i64 x.2.1, .slice A0 l0.length c0, .func (.func 81) #[] #[.pointer (some ⟨w.heap.size + 1, 0, none⟩)], .int .i64 x.1, .int .i64 x.2.1, undef, undef, undef, undef, undef, undef, undef, undef], defers := [] }) ?assign ?body ?done ?stop
  case assign =>
    intro l x W K hK
    gi_wp2
    exact hK
  case body =>
    rintro l pre ⟨i, x, hx⟩ W ⟨⟨hc, hf⟩, hB⟩ _
    dsimp only
    generalize hs : (pre.map (fun y => y.2.1)).foldl (impl_reduced.tot k) a1 = s at hc
    have hnext : ((pre ++ [(i, (⟨x, hx⟩ : {x : Int // impl_reduced.ok k x}))]).map (fun y => y.2.1)).foldl (impl_reduced.tot k) a1 = impl_reduced.tot k s x := by rw [List.map_append, List.foldl_append, hs]; rfl
    obtain ⟨t, b, ht, hb, hv⟩ := impl_reduced.one s x hx
    have HT := fun w => impl_top.calls k x t w ht
    have HH := fun w => impl_has.calls s t b w hb
    have HN := Aside0.mk (hnext.trans hv)
    clear hnext hv ht hb hs
    have hmx : Try.prog.follows .mixedOrders = true := by kernel_rfl
    gi_wp2
    gi_region_with_o (first
      | (refine ⟨trivial, ?_⟩; gi_at_call 73; refine (CallsIn.inRound l (callsIn_wide.2 (HT _))).mono ?_; rintro e w' ⟨rfl, ⟨⟨q, rfl⟩⟩⟩)
      | (refine ⟨trivial, ?_⟩; gi_at_call 27; refine (CallsIn.inRound l (callsIn_wide.2 (HH _))).mono ?_; rintro e w' ⟨rfl, ⟨⟨q, rfl⟩⟩⟩))
    all_goals cases b
    all_goals gi_wp2
    all_goals first
      | exact impl_reduced.stay hc hf hB (HN.out.trans (by simp))
      | exact impl_reduced.put hc hf hB (HN.out.trans (by simp))
  case done =>
    rintro D ys W hD hys ⟨⟨hc, _⟩, hB⟩ hK
    gi_wp2
    refine ⟨by simp, .inl ⟨_, _, rfl, run_takeDeferred hK, ?_⟩⟩
    have hv : (ys.map (fun y => y.2.1)).foldl (impl_reduced.tot k) a1 = r := by rw [← hfold, ← hys, List.map_map]; rfl
    exact ⟨_, results_tmp rfl _ _ _, by rw [hv]; rfl, hB.trans (belowK_b (w := w) (Nat.le_refl _) W D _ _ (by simp at hD; omega) hK rfl rfl)⟩
  case stop =>
    rintro D c pre W _ _ h _
    exact h.elim
-- MANUAL
def slices_SortFunc.lays_ren : Go.Shelf.Ren := ⟨fun | 6 => 74 | 15 => 79 | 14 => 80 | 28 => 82 | 29 => 83 | 20 => 84 | 21 => 85 | 22 => 86 | 23 => 87 | 24 => 88 | 25 => 89 | 26 => 90 | 27 => 91 | 46 => 92 | 47 => 93 | 48 => 94 | 49 => 95 | 50 => 96 | 57 => 97 | n => n, fun | 22 => 24 | 24 => 3 | 25 => 81 | 3 => 3 | 39 => 71 | 0 => 0 | 53 => 84 | 55 => 54 | 4 => 4 | 46 => 103 | 45 => 102 | 50 => 43 | 5 => 5 | 9 => 9 | 66 => 108 | 70 => 112 | 76 => 114 | 77 => 89 | n => n, fun | n => n⟩
theorem slices_SortFunc.lays : Go.Proofs.SlLaysF.n6 Try.prog slices_SortFunc.lays_ren := {
  mixed := by kernel_rfl
  f6 := ⟨Try.f74.name, by decide, Try.func74.trans (congrArg some (by kernel_rfl))⟩
  f14 := ⟨Try.f80.name, by decide, Try.func80.trans (congrArg some (by kernel_rfl))⟩
  f15 := Try.func79.trans (congrArg some (by kernel_rfl))
  f20 := ⟨Try.f84.name, by decide, Try.func84.trans (congrArg some (by kernel_rfl))⟩
  f21 := ⟨Try.f85.name, by decide, Try.func85.trans (congrArg some (by kernel_rfl))⟩
  f22 := ⟨Try.f86.name, by decide, Try.func86.trans (congrArg some (by kernel_rfl))⟩
  f23 := ⟨Try.f87.name, by decide, Try.func87.trans (congrArg some (by kernel_rfl))⟩
  f24 := ⟨Try.f88.name, by decide, Try.func88.trans (congrArg some (by kernel_rfl))⟩
  f25 := ⟨Try.f89.name, by decide, Try.func89.trans (congrArg some (by kernel_rfl))⟩
  f26 := ⟨Try.f90.name, by decide, Try.func90.trans (congrArg some (by kernel_rfl))⟩
  f27 := ⟨Try.f91.name, by decide, Try.func91.trans (congrArg some (by kernel_rfl))⟩
  f28 := Try.func82.trans (congrArg some (by kernel_rfl))
  f29 := Try.func83.trans (congrArg some (by kernel_rfl))
  f46 := ⟨Try.f92.name, by decide, Try.func92.trans (congrArg some (by kernel_rfl))⟩
  f47 := Try.func93.trans (congrArg some (by kernel_rfl))
  f48 := Try.func94.trans (congrArg some (by kernel_rfl))
  f49 := ⟨Try.f95.name, by decide, Try.func95.trans (congrArg some (by kernel_rfl))⟩
  f50 := ⟨Try.f96.name, by decide, Try.func96.trans (congrArg some (by kernel_rfl))⟩
  f57 := ⟨Try.f97.name, by decide, Try.func97.trans (congrArg some (by kernel_rfl))⟩
  t0 := Try.underlying0
  a0 := Try.isAgg0
  z0 := Try.sizeOf0
  v0 := Try.zeroValue0
  t3 := Try.underlying3
  a3 := Try.isAgg3
  z3 := Try.sizeOf3
  v3 := Try.zeroValue3
  t4 := Try.underlying4
  a4 := Try.isAgg4
  z4 := Try.sizeOf4
  v4 := Try.zeroValue4
  t5 := Try.underlying5
  a5 := Try.isAgg5
  z5 := Try.sizeOf5
  v5 := Try.zeroValue5
  t9 := Try.underlying9
  a9 := Try.isAgg9
  z9 := Try.sizeOf9
  v9 := Try.zeroValue9
  t22 := Try.underlying24
  a22 := Try.isAgg24
  z22 := Try.sizeOf24
  v22 := Try.zeroValue24
  a24 := Try.isAgg3
  z24 := Try.sizeOf3
  t25 := Try.underlying81
  a25 := Try.isAgg81
  z25 := Try.sizeOf81
  v25 := Try.zeroValue81
  t39 := Try.underlying71
  a39 := Try.isAgg71
  z39 := Try.sizeOf71
  v39 := Try.zeroValue71
  t45 := Try.underlying102
  a45 := Try.isAgg102
  z45 := Try.sizeOf102
  v45 := Try.zeroValue102
  t46 := Try.underlying103
  a46 := Try.isAgg103
  z46 := Try.sizeOf103
  v46 := Try.zeroValue103
  t50 := Try.underlying43
  a50 := Try.isAgg43
  z50 := Try.sizeOf43
  v50 := Try.zeroValue43
  t53 := Try.underlying84
  a53 := Try.isAgg84
  z53 := Try.sizeOf84
  v53 := Try.zeroValue84
  t55 := Try.underlying54
  a55 := Try.isAgg54
  z55 := Try.sizeOf54
  v55 := Try.zeroValue54
  t66 := Try.underlying108
  a66 := Try.isAgg108
  z66 := Try.sizeOf108
  v66 := Try.zeroValue108
  t70 := Try.underlying112
  a70 := Try.isAgg112
  z70 := Try.sizeOf112
  v70 := Try.zeroValue112
  t76 := Try.underlying114
  a76 := Try.isAgg114
  z76 := Try.sizeOf114
  v76 := Try.zeroValue114
  t77 := Try.underlying89
  a77 := Try.isAgg89
  z77 := Try.sizeOf89
  v77 := Try.zeroValue89 }
theorem slices_SortFunc.putRow_map {α : Type} [Inhabited α] (f : α → Int) (w : World) (blk off : Nat) (d : Array α) : Go.Sort.putRow (fun x => Value.int .i64 (f x)) w blk off d = Go.Sort.putRow (Value.int .i64) w blk off (d.map f) := by
  unfold Go.Sort.putRow
  congr 1
  funext c
  unfold Go.Sort.putCells
  congr 1
  funext k x
  rw [Array.size_map]
  split
  · next h => rw [getElem!_pos d (k - off) (by omega), getElem!_pos (d.map f) (k - off) (by simp; omega), Array.getElem_map]
  · rfl
theorem slices_SortFunc.below {w0 w w' : World} {g : Nat} {S : Nat → Prop} (hB : Below w0.heap.size w0 w) (hg : w.grownBy w' (some g)) (hb : w0.heap.size ≤ g) (hs : S g) : Below w0.heap.size w0 w' ∧ Kept w w' S :=
  ⟨hB.grown hg hB.size (fun k hk => by injection hk with hk; omega), Kept.of_grown hg (Kept.refl w S) (fun k hk => by injection hk with hk; subst hk; exact .inl hs)⟩
theorem slices_SortFunc.calls (g : Nat) (cb : Array Value) (tp : Int → Int) (eg : ∀ args w, (callFunc g args).run Try.prog w = .ok (.enter g args) w) (P0_ : Nat → Prop) (u9000_ : Value) (l0 : List Int) (w0 w : World) (hB : Below w0.heap.size w0 w) (ho0 : Kd.R (Kd.int .i64) 3 w w0.heap.size P0_ u9000_ l0)
    (hne : l0 ≠ []) (hl : l0.length < 4611686018427387904) (hcmp : ∀ (W : World) (x y : Int), x ∈ l0 → y ∈ l0 → Calls Try.prog g (#[.int .i64 x, .int .i64 y] ++ cb) W fun e w' => e = .returned (.int .i64 (tp x - tp y)) ∧ Drawn0 W w') (hT : ∀ x ∈ l0, ∀ y ∈ l0, tp x = tp y → x = y) :
    Calls Try.prog 74 #[u9000_, .func (.func g) #[] cb] w fun e w' => e = .returned (.tuple #[]) ∧ Kd.R (Kd.int .i64) 3 w' w0.heap.size (fun k_ => (P0_ k_ ∨ w.heap.size ≤ k_)) u9000_ (l0.mergeSort fun x y => !decide (tp y < tp x)) ∧ Below w0.heap.size w0 w' ∧ Kept w w' (fun k_ => P0_ k_) := by
  have ho := Kd.own_of_R ho0
  have hp := ho0.1
  rcases ho.2 with ⟨rfl, hz⟩ | ⟨g', cap, cur, rfl, hbase, hb, h1, h2, h3, h4⟩
  · exact absurd (List.eq_nil_of_length_eq_zero hz) hne
  · obtain ⟨x0, hx0⟩ := List.exists_mem_of_ne_nil l0 hne
    have inh : Inhabited {x : Int // x ∈ l0} := ⟨⟨x0, hx0⟩⟩
    have hgl : g' < w.heap.size := (Array.getElem?_eq_some_iff.1 hb).1
    have hd : l0.attach.toArray.map (fun x => x.1) = l0.toArray := by simp
    have hsz : l0.attach.toArray.size = l0.length := by simp
    have hH : Go.Sort.Holds (fun x : {x : Int // x ∈ l0} => Value.int .i64 x.1) w g' 0 l0.attach.toArray := by
      have h := Go.holds_of_blockI (ss := l0) hb (by simpa [encs] using h4)
      intro j hj
      have hj2 : j < l0.length := by simpa using hj
      have h5 := h j (by simpa using hj2)
      refine ⟨?_, h5.2⟩
      rw [h5.1, getElem!_pos l0.toArray j (by simpa using hj2), getElem!_pos l0.attach.toArray j hj]
      simp
    have hO : Go.Sort.SWO (Go.Proofs.ltOf (fun x y : {x : Int // x ∈ l0} => tp x.1 - tp y.1)) := by
      refine ⟨fun x => ?_, fun x y z h5 h6 => ?_, fun x y z h5 h6 => ?_⟩
      · simp [Go.Proofs.ltOf]
      · simp only [Go.Proofs.ltOf, decide_eq_true_eq] at h5 h6 ⊢
        omega
      · simp only [Go.Proofs.ltOf, decide_eq_false_iff_not] at h5 h6 ⊢
        omega
    have hc : Calls Try.prog 74 #[.slice (some ⟨g', 0, none⟩) l0.attach.toArray.size cap, .func (.func g) #[] cb] w fun e w' => e = .returned (.tuple #[]) ∧ ∃ n os, w' = Go.Proofs.sortWorld (fun x : {x : Int // x ∈ l0} => Value.int .i64 x.1) w g' 0 n (l0.attach.toArray.toList.mergeSort fun x y => !(Go.Proofs.ltOf (fun x y : {x : Int // x ∈ l0} => tp x.1 - tp y.1)) y x).toArray os :=
      Go.Proofs.Any.slices_SortFunc_total slices_SortFunc.lays (fun x : {x : Int // x ∈ l0} => Value.int .i64 x.1) (fun _ => rfl) (fun x y => tp x.1 - tp y.1) hO g cb g' 0 cap l0.attach.toArray w eg
        (Go.Proofs.CmpReads.lays (fun m os dk _ x y => (hcmp _ x.1 y.1 x.2 y.2).mono fun _ _ ⟨he, hq⟩ => ⟨he, hq.out⟩)) hH hgl (by rw [hsz]; exact hl)
        (fun x y h5 h6 => by
          simp only [Go.Proofs.ltOf, decide_eq_false_iff_not] at h5 h6
          exact Subtype.ext (hT x.1 x.2 y.1 y.2 (by omega)))
    rw [hsz] at hc
    refine hc.mono ?_
    rintro e w' ⟨rfl, nn, os, rfl⟩
    have hm : ((l0.attach.toArray.toList.mergeSort fun x y => !(Go.Proofs.ltOf (fun x y : {x : Int // x ∈ l0} => tp x.1 - tp y.1)) y x).toArray).map (fun x => x.1) = (l0.mergeSort fun x y => !decide (tp y < tp x)).toArray := by
      rw [List.map_toArray]
      congr 1
      rw [List.map_mergeSort (s := fun x y => !decide (tp y < tp x)) (fun a _ b _ => by
        simp only [Go.Proofs.ltOf]
        congr 1
        rw [Bool.eq_iff_iff, decide_eq_true_eq, decide_eq_true_eq]
        omega)]
      congr 1
      simp
    unfold Go.Proofs.sortWorld
    rw [slices_SortFunc.putRow_map, hm]
    have hown := Go.ownsRow_sortedI (n := nn) (os := os) (ss := l0) (ts := l0.mergeSort fun x y => !decide (tp y < tp x)) (by simp) hbase hb h1 h2 h3
    have hk := slices_SortFunc.below (S := P0_) hB (Go.grownBy_sortedI (w := w) (g := g') (n := nn) (os := os) (l0.mergeSort fun x y => !decide (tp y < tp x)).toArray) hbase (hp g' (by simp [Value.ownBlock]))
    refine ⟨rfl, Kd.R_of_own ?_ (fun k hk => .inl (hp k hk)), hk.1, hk.2⟩
    have e1 : (l0.mergeSort fun x y => !decide (tp y < tp x)).length = l0.length := by simp
    rw [e1]
    exact hown
-- MANUAL
def impl_extended.tp (k : Nat) (x : Int) : Int := (impl_top.f k x).getD 0
def impl_extended.okB (k : Nat) (x : Int) : Bool := match impl_top.f k x with | some t => decide (-1 ≤ t) && decide (t ≤ 64) | none => false
def impl_extended.go (k : Nat) (s : Int) : List Int → Option (List Int)
  | [] => some []
  | b :: r => (impl_top.f k s).bind fun t => (impl_has.f b t).bind fun q => (impl_extended.go k s r).bind fun l => some ((if q = true then Go.bits .xor .i64 b s else b) :: l)
def impl_extended.fit (k : Nat) (l : List Int) : Bool := l.all (impl_extended.okB k) && (l.all fun x => l.all fun y => impl_extended.tp k x != impl_extended.tp k y || x == y) && decide (l.length < 17592186044416)
def impl_extended.f (k : Nat) (l0 : List Int) (a1 : Int) : Option (List Int) := (impl_reduced.f k l0 a1).bind fun t => if t = 0 then some l0 else (impl_extended.go k t l0).bind fun o =>
  if impl_extended.fit k (o ++ [t]) = true then some ((o ++ [t]).mergeSort fun x y => !decide (impl_extended.tp k y < impl_extended.tp k x)) else none
theorem impl_extended.ok_some {k : Nat} {x : Int} (h : impl_extended.okB k x = true) : ∃ t, impl_top.f k x = some t ∧ -1 ≤ t ∧ t ≤ 64 := by
  unfold impl_extended.okB at h
  split at h
  · next t e => exact ⟨t, e, by simpa using h⟩
  · cases h
theorem impl_extended.fit_ok {k : Nat} {l : List Int} (h : impl_extended.fit k l = true) : ∀ x ∈ l, impl_extended.okB k x = true := by
  unfold impl_extended.fit at h
  simp only [Bool.and_eq_true, List.all_eq_true, decide_eq_true_eq] at h
  exact h.1.1
theorem impl_extended.fit_len {k : Nat} {l : List Int} (h : impl_extended.fit k l = true) : l.length < 17592186044416 := by
  unfold impl_extended.fit at h
  simp only [Bool.and_eq_true, decide_eq_true_eq] at h
  exact h.2
theorem impl_extended.fit_small {k : Nat} {l : List Int} (h : impl_extended.fit k l = true) : l.length < 4611686018427387904 := by have := impl_extended.fit_len h; omega
theorem impl_extended.fit_apart {k : Nat} {l : List Int} (h : impl_extended.fit k l = true) : ∀ x ∈ l, ∀ y ∈ l, impl_extended.tp k x = impl_extended.tp k y → x = y := by
  unfold impl_extended.fit at h
  simp only [Bool.and_eq_true, List.all_eq_true, decide_eq_true_eq] at h
  intro x hx y hy e
  have := h.1.2 x hx y hy
  simpa [e] using this
theorem impl_extended.small {k : Nat} {a q o : List Int} {t : Int} (h : impl_extended.fit k (o ++ [t]) = true) (e : a ++ q = o) : a.length < 17592186044416 := by
  have h1 := impl_extended.fit_len h
  rw [← e] at h1
  simp at h1
  omega
theorem impl_extended.lit (k : Nat) (x y : Int) (W : World) (hx : impl_extended.okB k x = true) (hy : impl_extended.okB k y = true) :
    Calls Try.prog 75 (#[.int .i64 x, .int .i64 y] ++ #[]) W fun e w' => e = .returned (.int .i64 (impl_extended.tp k x - impl_extended.tp k y)) ∧ Drawn0 W w' := by
  obtain ⟨t1, e1, a1, b1⟩ := impl_extended.ok_some hx
  obtain ⟨t2, e2, a2, b2⟩ := impl_extended.ok_some hy
  have ht : impl_extended.tp k x - impl_extended.tp k y = t1 - t2 := by unfold impl_extended.tp; rw [e1, e2]; rfl
  rw [ht]
  have h1 := fun w => impl_top.calls k x t1 w e1
  have h2 := fun w => impl_top.calls k y t2 w e2
  have hw : IntKind.i64.wrap (t1 - t2) = t1 - t2 := by rw [IntKind.wrap_i64]; omega
  clear ht hx hy e1 e2
  show Calls Try.prog _ #[.int .i64 x, .int .i64 y] W _
  go_enter Try.func75, Try.ntmps75
  go_wp2_with fail
  refine (h1 _).mono ?_
  rintro e w1 ⟨rfl, ⟨n1, rfl⟩⟩
  go_wp2_with fail
  refine (h2 _).mono ?_
  rintro e w2 ⟨rfl, ⟨n2, rfl⟩⟩
  go_wp2
  go_ret
  exact ⟨by first | rfl | (simp [hw]; done), by repeat (first | exact Drawn0.refl _ | apply Drawn0.step)⟩
set_option maxRecDepth 100000 in
set_option maxHeartbeats 4000000 in
theorem impl_extended.keeps (k : Nat) (P0_ : Nat → Prop) (u9000_ : Value) (l0 : List Int) (a1 : Int) (r : List Int) (w0 w : World) (hB : Below w0.heap.size w0 w) (ho0 : Kd.R (Kd.int .i64) 3 w w0.heap.size P0_ u9000_ l0) (h : impl_extended.f k l0 a1 = some r) :
    Calls Try.prog 70 #[u9000_, .int .i64 a1] w fun e w' => ∃ v0_ : Value, e = .returned (v0_) ∧ Kd.R (Kd.int .i64) 3 w' w0.heap.size (fun k_ => (P0_ k_ ∨ w.heap.size ≤ k_)) v0_ r ∧ Below w0.heap.size w0 w' ∧ Below w.heap.size w w' := by
  obtain ⟨A0, c0, rfl, hl0, hC0⟩ := Kd.R_reads ho0
  unfold impl_extended.f at h
  obtain ⟨t, ht, h⟩ := Option.bind_eq_some_iff.1 h
  have HRD := Aside0.mk (impl_reduced.calls k A0 c0 l0 a1 t w hC0 hl0 ht)
  have HO := Aside0.mk ho0
  have HB0 := Aside0.mk hB
  have hM := Kd.C_max hC0
  have HC := Aside0.mk hC0
  clear ho0 hB hC0 ht
  by_cases hz : t = 0
  · subst hz
    rw [if_pos rfl] at h
    obtain rfl := Option.some.inj h
    clear h
    go_enter Try.func70, Try.ntmps70
    go_wp2_with (go_at_call 72; refine HRD.out.mono ?_; rintro e w5 ⟨rfl, hb5⟩; have HB5 := Aside0.mk hb5; clear hb5)
    go_ret
    exact ⟨_, rfl, Kd.R_below (Kd.R_mono HO.out (fun k_ hk_ => .inl hk_)) HB5.out, below_step HB0.out HB5.out, HB5.out⟩
  · rw [if_neg hz] at h
    obtain ⟨o, ho, h⟩ := Option.bind_eq_some_iff.1 h
    split at h
    case isFalse => cases h
    next hfit =>
    obtain rfl := Option.some.inj h
    have hzb : (t == 0) = false := by simpa using hz
    have HG := Aside0.mk ho
    have HF := Aside0.mk hfit
    clear h ho hfit hz
    go_enter Try.func70, Try.ntmps70
    go_wp2_with (first
      | (go_at_call 72; refine HRD.out.mono ?_; rintro e w5 ⟨rfl, hb5⟩; have HB5 := Aside0.mk hb5; clear hb5 HRD)
      | ((with_reducible refine gate_dst (N := 14) rfl ?_); refine Kd.R_lit (Kd.int .i64) _ 3 ?hg (N := 14) ?hd (xs := ([] : List Int)) (inner := []) (ok := fun _ => True) (okp := fun _ => True) ?hr ?hp (fun _ hk => hk) trivial (Below.refl _ _) (Nat.le_refl _) (by simp) ?_; (case hd => rfl); (case hg => rfl); (case hr => first | (go_simp; done) | (go_simp; rfl)); (case hp => exact (Reps.none _ _)); intro v6 w6 ho6 hb6 hg6 hnew6; have HO6 := Aside0.mk ho6; have HB6 := Aside0.mk hb6; clear ho6 hb6 hg6 hnew6))
    go_loopg [5, 17] l0.length (fun g v5 v17 wr => ∃ (i : Nat) (a q : List Int), v17 = .int .i64 i ∧ Aside0 (i + g = l0.length) ∧ Aside0 (impl_extended.go k t (l0.drop i) = some q ∧ a ++ q = o ∧ a.length = i) ∧ Aside0 (Kd.R (Kd.int .i64) 3 wr w5.heap.size (fun _ => True) v5 a) ∧ Aside0 (Below w5.heap.size w5 wr))
    case atStart => exact ⟨0, [], o, rfl, ⟨by omega⟩, ⟨HG.out, rfl, rfl⟩, HO6, HB6⟩
    case round =>
      clear HO6 HB6
      obtain ⟨i, a, q, rfl, HD, HI, HOa, HBa⟩ := hrel
      cases gk with
      | zero =>
        have hge : ¬ (i < l0.length) := by have := HD.out; omega
        have e1 : a = o := by
          have h1 := HI.out.1
          rw [List.drop_eq_nil_of_le (by omega)] at h1
          simp only [impl_extended.go, Option.some.injEq] at h1
          rw [← HI.out.2.1, ← h1]
          simp
        have HE := Aside0.mk e1
        have HF2 : impl_extended.fit k (a ++ [t]) = true := by rw [e1]; exact HF.out
        have HFX := Aside0.mk HF2
        have HS := Aside0.mk (fun (v : Value) (W : World) (hBW : Below w5.heap.size w5 W) (hoW : Kd.R (Kd.int .i64) 3 W w5.heap.size (fun _ => True) v (a ++ [t])) =>
          slices_SortFunc.calls 75 #[] (impl_extended.tp k) (Go.Proofs.enters_of Try.func75 (by kernel_rfl) rfl) (fun _ => True) v (a ++ [t]) w5 W hBW hoW (by simp) (impl_extended.fit_small HFX.out) (fun W x y hx hy => impl_extended.lit k x y W (impl_extended.fit_ok HFX.out x hx) (impl_extended.fit_ok HFX.out y hy)) (impl_extended.fit_apart HFX.out))
        have hal : (a.length + 1) * 8 ≤ 140737488355328 := by have := impl_extended.fit_small HFX.out; simp at this; have := impl_extended.fit_len HFX.out; simp at this; omega
        clear e1 HI HG HF2
        go_wp2_with (first
          | ((with_reducible refine gate_builtin (b := .append) (xs := #[.tmp 33, .tmp 35]) rfl ?_); at_builtin; refine Kd.R_append (Kd.int .i64) (w0 := w5) w5.heap.size rfl (.tmp 33) (.tmp 35) 24 3 (.int .i64 0) 8 rfl Try.underlying24 info3 rfl (by decide) (by omega) _ a t [.int .i64 t] (fun _ => True) (fun _ => False) rfl rfl ?aP (fun _ hk => hk.elim) (fun _ _ => trivial) HOa.out HBa.out HBa.out.size hal ?_; (case aP => exact rfl); intro v9 w9 ho9 hb9 hg9 hat9; have HO9 := Aside0.mk ho9; have HB9 := Aside0.mk hb9; have HC9 := Aside0.mk (HS.out v9 w9 hb9 ho9); clear ho9 hb9 hg9 hat9 HS)
          | (go_at_call 74; refine HC9.out.mono ?_; rintro e w10 ⟨rfl, hr10, hb10, hk10⟩; have HO10 := Aside0.mk hr10; have HB10 := Aside0.mk hb10; clear hr10 hb10 hk10))
        go_ret
        refine ⟨_, rfl, ?_, ?_, ?_⟩
        · rw [← HE.out]
          exact Kd.R_lower (Kd.R_mono (Kd.R_bound HO10.out) (fun k_ hk_ => .inr (Nat.le_trans HB5.out.size hk_.2.1))) (Nat.le_trans HB0.out.size HB5.out.size)
        · exact below_step (below_step HB0.out HB5.out) HB10.out
        · exact below_step HB5.out HB10.out
      | succ g =>
        have hlt : i < l0.length := by have := HD.out; omega
        have HI2 := HI.out.1
        rw [List.drop_eq_getElem_cons hlt] at HI2
        unfold impl_extended.go at HI2
        obtain ⟨tt, htt, HI2⟩ := Option.bind_eq_some_iff.1 HI2
        obtain ⟨b, hb, HI2⟩ := Option.bind_eq_some_iff.1 HI2
        obtain ⟨q2, hq2, HI2⟩ := Option.bind_eq_some_iff.1 HI2
        have hq : (if b = true then Go.bits .xor .i64 l0[i] t else l0[i]) :: q2 = q := Option.some.inj HI2
        obtain ⟨ad, e, hx⟩ := Kd.at_int (Kd.C_below (Kd.C_below HC.out HB5.out) HBa.out) (i : Int) (by omega) (by omega)
        cases e
        have hx2 : wr.cell? (ad.add i) = some (.int .i64 l0[i]) := by
          have e1 : rd l0 (i : Int) = l0[i] := by unfold rd; simp [List.getD_eq_getElem?_getD, List.getElem?_eq_getElem hlt]
          rw [e1] at hx
          simpa using hx
        generalize l0[i] = y at hx2 hq hb
        have HT := Aside0.mk (fun w => impl_top.calls k t tt w htt)
        have HH := Aside0.mk (fun w => impl_has.calls y tt b w hb)
        have HQ := Aside0.mk hq
        have HQ2 := Aside0.mk hq2
        clear hx htt hb hq hq2 HI2
        cases b
        all_goals go_wp2_with (first
          | (go_at_call 73; refine (HT.out _).mono ?_; rintro e w7 ⟨rfl, ⟨n7, rfl⟩⟩)
          | (go_at_call 27; refine (HH.out _).mono ?_; rintro e w8 ⟨rfl, ⟨n8, rfl⟩⟩)
          | ((with_reducible refine gate_builtin (b := .append) (xs := #[.tmp 28, .tmp 30]) rfl ?_); at_builtin; refine Kd.R_append (Kd.int .i64) (w0 := w5) w5.heap.size rfl (.tmp 28) (.tmp 30) 24 3 (.int .i64 0) 8 rfl Try.underlying24 info3 rfl (by decide) (by omega) _ a y [.int .i64 y] (fun _ => True) (fun _ => False) rfl rfl ?aP (fun _ hk => hk.elim) (fun _ _ => trivial) ?aO ?aB ?aS ?aL ?_; (case aP => exact rfl); (case aO => (with_reducible repeat (first | apply Kd.R_alloc | apply Kd.R_drewN | apply Kd.R_drew)); exact HOa.out); (case aB => repeat (first | (with_reducible first | exact HBa.out | apply below_alloc | apply pw_below_drewN | apply below_drew1) | exact HBa.out)); (case aS => exact HBa.out.size); (case aL => have := impl_extended.small HF.out HI.out.2.1; omega); intro v9 w9 ho9 hb9 hg9 hat9; have HO9 := Aside0.mk ho9; have HB9 := Aside0.mk hb9; clear ho9 hb9 hg9 hat9)
          | ((with_reducible refine gate_builtin (b := .append) (xs := #[.tmp 28, .tmp 30]) rfl ?_); at_builtin; refine Kd.R_append (Kd.int .i64) (w0 := w5) w5.heap.size rfl (.tmp 28) (.tmp 30) 24 3 (.int .i64 0) 8 rfl Try.underlying24 info3 rfl (by decide) (by omega) _ a (Go.bits .xor .i64 y t) [.int .i64 (Go.bits .xor .i64 y t)] (fun _ => True) (fun _ => False) rfl rfl ?aP (fun _ hk => hk.elim) (fun _ _ => trivial) ?aO ?aB ?aS ?aL ?_; (case aP => exact rfl); (case aO => (with_reducible repeat (first | apply Kd.R_alloc | apply Kd.R_drewN | apply Kd.R_drew)); exact HOa.out); (case aB => repeat (first | (with_reducible first | exact HBa.out | apply below_alloc | apply pw_below_drewN | apply below_drew1) | exact HBa.out)); (case aS => exact HBa.out.size); (case aL => have := impl_extended.small HF.out HI.out.2.1; omega); intro v9 w9 ho9 hb9 hg9 hat9; have HO9 := Aside0.mk ho9; have HB9 := Aside0.mk hb9; clear ho9 hb9 hg9 hat9))
        all_goals go_roundg g
        all_goals first
          | (case measure => omega)
          | (case rel => exact ⟨i + 1, a ++ [_], q2, by go_num, ⟨by have := HD.out; omega⟩, ⟨HQ2.out, by rw [← HI.out.2.1, ← HQ.out]; simp, by simp [HI.out.2.2]⟩, HO9, HB9⟩)
end Go.Proofs.Ytlohlngmagpepaa.PFnCutsAndEvenEdges
