-- Written by a program of this session (wip/tools/mp.py) around the kit's printer; Lean checks it.
import Derived.Test.YtlohlngmagpepaaGreatPFnSplitsOfGraphsx0
import Derived.LoopIn
import Derived.LoopNIn
import Derived.OwnWalkIn
import Derived.RangeFuncBound
import Derived.RangeFuncBox
import Derived.RangeFuncCalls
import Derived.RangeFuncLeaves
import Derived.RangeFuncNested
import Derived.Shelf.Abstract
import Derived.Shelf.RegionOpen
import Derived.TacticsInMore
import Derived.WalkKit
namespace Go.Proofs.YtlohlngmagpepaaGreat.PFnSplitsOfGraphs
open Go.RowKit Go.Proofs.YtlohlngmagpepaaGreatW.PrintWords Go.Proofs.YtlohlngmagpepaaGreatW.PrintLast Go.Proofs.YtlohlngmagpepaaGreatW.PrintMore
attribute [local go_sem] max2_int min2_int max_two min_two max_three min_three max_four min_four   -- for this text's walks alone
set_option linter.unusedVariables false
set_option linter.unusedSimpArgs false

/-! ### slices_Backward_int_int: function 137 -/
-- MANUAL
open Go.Shelf
attribute [local go_sem] Oper.semAt_some
/-- What a round of a loop over slices.Backward keeps: what lay below n₀, and the box of the slice. -/
def BackKp (n₀ Bs : Nat) (W W' : World) : Prop := Below n₀ W W' ∧ ∀ v, W.cell? ⟨Bs, 0, none⟩ = some v → W'.cell? ⟨Bs, 0, none⟩ = some v
theorem backKp_t {n₀ Bs : Nat} {A B C : World} (h : BackKp n₀ Bs A B) (k : BackKp n₀ Bs B C) : BackKp n₀ Bs A C := ⟨h.1.trans k.1, fun v hv => k.2 v (h.2 v hv)⟩
theorem backKp_b {n₀ Bs : Nat} {w : World} (hn : n₀ ≤ w.heap.size) (W : World) (l : Nat) (o o' : Obj) (hl : w.heap.size ≤ l) (h : W.heap[l]? = some o) (hc : o.isCells = false) (hw : o.isWalk = false) : BackKp n₀ Bs W (W.putObj l o') :=
  ⟨belowK_b hn W l o o' hl h hc hw, fun v hv => cell_kept hv (grownBy_putObj' W l o') (fun r e => by cases e; exact ⟨o, h, hc⟩)⟩
set_option maxRecDepth 100000 in
set_option maxHeartbeats 2000000 in
theorem slices_Backward.lit_in {σ : Type} (val : σ → Int) (F : Fence) (n : Nat) (h7 : F.fn 169) (hro : F.round = none) (hn : 1 ≤ n) (l Bs : Nat) (A : Option Addr) (c : Nat) (l0 : List Int) (zs : List σ) (hz : zs.map val = l0.reverse) (J Jx : List (Int × σ) → World → Prop) (w0 : World)
    (hY : ∀ pre x W, J pre W → pre.length < zs.length → YieldAt F (n - 1) Tryz.prog l #[.int .i64 x.1, .int .i64 (val x.2)] W fun e W' =>
      (e = .returned (.bool true) ∧ J (pre ++ [x]) W' ∧ BackKp w0.heap.size Bs W W') ∨ (e = .returned (.bool false) ∧ Jx (pre ++ [x]) W'))
    (W : World) (h0w : Below w0.heap.size w0 W) (hBs : W.cell? ⟨Bs, 0, none⟩ = some (.slice A l0.length c)) (hr : Kd.C (Kd.int .i64) w0 A l0.length l0) (h0 : J [] W) :
    CallsIn F n Tryz.prog 169 #[.func (.yield l) #[] #[], .pointer (some ⟨Bs, 0, none⟩)] W fun e W' => (∃ v, e = .returned v) ∧
      ((∃ ys, ys.map (fun y => y.2) = zs ∧ J ys W') ∨ (∃ pre : List (Int × σ), True ∧ Jx pre W')) := by
  have hm := Kd.C_max hr
  have hlen : zs.length = l0.length := by have := congrArg List.length hz; simpa using this
  refine callsIn_of_wp Tryz.func169 rfl h7 ?_ hro
  simp only [Tryz.ntmps169, List.size_toArray, List.length_cons, List.length_nil, Nat.reduceAdd, Nat.reduceSub, Array.replicate_succ, Array.replicate_zero, List.push_toArray, List.append_toArray, List.nil_append, List.cons_append]
  gi_wp2
  gi_loopw [3] (fun i wr => ∃ m : Nat, m ≤ l0.length ∧ i = .int .i64 ((m : Int) - 1) ∧ (∃ pre : List (Int × σ), pre.map (fun y => y.2) = zs.take (l0.length - m) ∧ J pre wr) ∧ Below w0.heap.size w0 wr ∧ wr.cell? ⟨Bs, 0, none⟩ = some (.slice A l0.length c))
    (fun i _ => (intOf i + 1).toNat)
  case atStart => exact ⟨l0.length, Nat.le_refl _, by go_num, ⟨[], by simp, h0⟩, h0w, hBs⟩
  case round =>
    obtain ⟨m, hml, rfl, ⟨pre, hp, hJs⟩, hb, hc⟩ := hrel
    cases m with
    | zero =>
      gi_wp2
      go_end0
      exact ⟨⟨_, rfl⟩, .inl ⟨pre, by rw [hp, Nat.sub_zero, ← hlen, List.take_length], hJs⟩⟩
    | succ m =>
      have hz1 : l0.length - (m + 1) < zs.length := by omega
      obtain ⟨ad, e1, hx⟩ := Kd.at_int (Kd.C_below hr hb) (m : Int) (by omega) (by omega)
      subst e1
      have hv : rd l0 (m : Int) = val zs[l0.length - (m + 1)] := by
        have h1 : (zs.map val)[l0.length - (m + 1)]'(by simpa using hz1) = l0.reverse[l0.length - (m + 1)]'(by simp; omega) := by simp only [hz]
        rw [List.getElem_map, List.getElem_reverse] at h1
        rw [h1]
        unfold rd
        simp only [Int.toNat_natCast, List.getD_eq_getElem?_getD]
        rw [List.getElem?_eq_getElem (by omega), Option.getD_some]
        congr 1
        omega
      rw [hv] at hx
      have hx2 : wr.cell? (ad.add m) = some (.int .i64 (val zs[l0.length - (m + 1)])) := by simpa using hx
      clear hx
      have hpl : pre.length < zs.length := by have := congrArg List.length hp; simp at this; omega
      obtain ⟨fn, tmps, assign, body, hy, hR⟩ := hY pre ((m : Int), zs[l0.length - (m + 1)]) wr hJs hpl
      dsimp only at hy
      have hi : ((m + 1 : Nat) : Int) - 1 = (m : Int) := by omega
      rw [hi]
      gi_wp2
      refine hR.mono ?_
      rintro e W3 (⟨rfl, hJ3, hk3⟩ | ⟨rfl, hJx3⟩)
      · gi_wp2
        go_roundw
        case rel => exact ⟨m, by omega, by go_num, ⟨pre ++ [((m : Int), zs[l0.length - (m + 1)])], by rw [List.map_append, hp, show l0.length - m = l0.length - (m + 1) + 1 by omega, List.take_succ_eq_append_getElem hz1]; rfl, hJ3⟩, hb.trans hk3.1, hk3.2 _ hc⟩
        case measure => simp [intOf]
      · gi_wp2
        refine bodyPost_ret (results_none rfl _ _ _) rfl ?_
        exact ⟨⟨_, rfl⟩, .inr ⟨_, trivial, hJx3⟩⟩
set_option maxHeartbeats 1000000 in
theorem slices_Backward.in_ (F : Fence) (n : Nat) (h5 : F.fn 137) (hro : F.round = none) (a : Option Addr) (len cap : Nat) (w : World) :
    CallsIn F n Tryz.prog 137 #[.slice a len cap] w fun e w' => e = .returned (.func (.func 169) #[] #[.pointer (some ⟨w.heap.size, 0, none⟩)]) ∧ w' = w.alloc (.cells #[.slice a len cap] 24) := by
  refine callsIn_of_wp Tryz.func137 rfl h5 ?_ hro
  simp only [Tryz.ntmps137, List.size_toArray, List.length_cons, List.length_nil, Nat.reduceAdd, Nat.reduceSub, Array.replicate_succ, Array.replicate_zero, List.push_toArray, List.append_toArray, List.nil_append, List.cons_append]
  gi_wp2
  go_ret
  exact ⟨rfl, rfl⟩
theorem slices_Backward.stops {σ : Type} (val : σ → Int) (F : Fence) (n : Nat) (h7 : F.fn 169) (hro : F.round = none) (hn : 1 ≤ n) (Bs : Nat) (A : Option Addr) (c : Nat) (l0 : List Int) (zs : List σ) (hz : zs.map val = l0.reverse) (w0 w : World) (h0w : Below w0.heap.size w0 w) (hB : Bs < w.heap.size)
    (hBs : w.cell? ⟨Bs, 0, none⟩ = some (.slice A l0.length c)) (hr : Kd.C (Kd.int .i64) w0 A l0.length l0) :
    SeqStopsK F n Tryz.prog 169 #[.pointer (some ⟨Bs, 0, none⟩)] (fun x : Int × σ => #[Value.int .i64 x.1, Value.int .i64 (val x.2)]) (BackKp w0.heap.size Bs) (fun ys => ys.map (fun y => y.2) = zs) (fun _ => True) zs.length w := fun l J Jx W hW _ _ hY h0 =>
  slices_Backward.lit_in val F n h7 hro hn l Bs A c l0 zs hz J Jx w0 hY W (h0w.trans (hW.mono h0w.size)) ((hW.cell (p := ⟨Bs, 0, none⟩) hB).trans hBs) hr h0

end Go.Proofs.YtlohlngmagpepaaGreat.PFnSplitsOfGraphs
