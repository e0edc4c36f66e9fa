/- What is drawn for FnQuietPatterns: within bounds, whatever it is. -/
import Derived.Test.YtjoeakahfomckaaGreatPFnQuietPatternsx
import Derived.Test.YtjoeakahfomckaaGreatQFnQuietPatterns0
import Derived.Test.YtjoeakahfomckaaGreatQFnQuietPatterns1
import Derived.Test.YtjoeakahfomckaaGreatM1
import Derived.Test.YtjoeakahfomckaaGreatM33
import Derived.WalkKit
import Derived.RowKit3
import Derived.Deep.QuietTactic
import Derived.BigQuiet
import Derived.Deep.DeepCutAuto
import Derived.Deep.CutBlock
import Derived.Deep.LoopGhost
import Derived.Outline
import Derived.Deep.DeepFit
import Derived.Test.YtjoeakahfomckaaGreatDFnQuietPatterns0
import Derived.Test.YtjoeakahfomckaaGreatDFnQuietPatterns1
import Derived.Test.YtjoeakahfomckaaGreatDFnQuietPatterns2
namespace Go.Proofs.YtjoeakahfomckaaGreat.Draw
open Go.RowKit Go.Proofs.YtjoeakahfomckaaGreat.PFnQuietPatterns Go.Proofs.YtjoeakahfomckaaGreatW.PrintWords Go.Proofs.YtjoeakahfomckaaGreatW.PrintLast Go.Proofs.YtjoeakahfomckaaGreatW.PrintMore Go.Proofs.YtjoeakahfomckaaGreatM Go.Proofs.YtjoeakahfomckaaGreat.Pure
attribute [local go_sem] max2_int min2_int max_two min_two max_three min_three max_four min_four
set_option linter.unusedVariables false
set_option linter.unusedSimpArgs false
variable {w0 w w1 W : World} {g : Nat} {a : Int}
/-! What the solver solves. -/
theorem svG_small {l : List Int} (hG : GoodG l) (own : Bool) : SvOk l.length l.length l.length (svG l own) := by
  obtain ⟨_, h1, h2⟩ := togs_ints l own hG
  have := svOk_of (n := l.length) (l := togs l own) (by omega) h2
  rwa [h1] at this
theorem reduced_any {W : World} {v : Value} {q : List Nat} {s : Nat} (h : Rd W v (ints q)) (hs : s < 2 ^ 62) (hq : ∀ b ∈ q, b < 2 ^ 62 ∧ b ≠ 0) : Calls Tryz.prog 50 #[v, .int .i64 (s : Int)] W fun e W' => e = .returned (.int .i64 ((red q s : Nat) : Int)) ∧ Below W.heap.size W W' := by
  obtain ⟨A, c, rfl, hc, hC, hl⟩ := h
  exact impl_reduced.calls 1 A c (ints q) (s : Int) _ W hC hc (impl_reduced.eq 0 q s hs hq)
set_option maxRecDepth 100000 in
set_option maxHeartbeats 4000000 in
theorem solve_any {W : World} {b : Nat} {l : List Int} {own : Bool} (hG : GoodG l) (hS : SvAt W b (svG l own)) {y : Nat} (hy : y < 2 ^ l.length) :
    Calls Tryz.prog 66 #[.pointer (some ⟨b, 0, none⟩), .int .i64 (y : Int)] W fun e W' => e = .returned (.tuple #[.int .i64 ((red (svG l own).quiet (reach (svG l own).ps y).2 : Nat) : Int), .bool (decide ((reach (svG l own).ps y).1 = 0))]) ∧ Below W.heap.size W W' := by
  have hu := Tryz.underlying49
  have hk := svG_small hG own
  have h16 : (2 : Nat) ^ l.length ≤ 2 ^ 16 := Nat.pow_le_pow_right (by decide) hG.top
  have hn := hG.top
  have hrl := reach_lt hk hy
  generalize svG l own = s at *
  obtain ⟨vp, vq, vi, hX, hP, hQ, hI⟩ := hS
  have hra := reach_any hX hP (fun p hp => ⟨(hk.ps p hp).1, by have := (hk.ps p hp).2.1; omega, by have := (hk.ps p hp).2.2; omega⟩) (by have := hk.pl; omega) (show y < 2 ^ 62 by omega)
  obtain ⟨Aq, cq, rfl⟩ := Kd.R_slice hQ
  have HRA := Aside0.mk hra
  have X := Aside0.mk hX
  have RQ := Aside0.mk hQ
  have HK := Aside0.mk hk
  generalize (reach s.ps y).1 = a at *
  generalize (reach s.ps y).2 = q at *
  have hz : ((a : Int) == 0) = decide (a = 0) := by
    rw [Bool.eq_iff_iff, beq_iff_eq, decide_eq_true_eq]
    exact Int.ofNat_eq_zero
  have HL := Aside0.mk hrl
  clear hra hX hP hQ hI hk hrl
  go_enter Tryz.func66, Tryz.ntmps66
  go_wp2_with (first
    | (go_at_call 93; (with_reducible refine HRA.out.mono ?_); rintro e w2 ⟨rfl, hb⟩; have HB := Aside0.mk hb; have hX := blk_below X.out hb; have nQ := Aside0.mk (Kd.R_below RQ.out hb); have hX1 := (blk_cell hX 1).trans rfl; clear RQ hX hb HRA; have RQ := nQ; clear nQ)
    | (go_at_call 50; (with_reducible refine (reduced_any (Rd.of RQ.out (by rw [ints_length]; have := HK.out.ql; omega)) (show q < 2 ^ 62 by have := HL.out.2; omega) (fun b hb => ⟨by have := HK.out.q b hb; omega, HK.out.qb.pos b hb⟩)).mono ?_); rintro e w3 ⟨rfl, hb⟩; have nB := Aside0.mk (below_step HB.out hb); clear HB hb; have HB := nB; clear nB))
  go_ret2
  exact ⟨by first | rfl | (simp [hz]; done), HB.out⟩
theorem blk_low2 {W W' : World} {b : Nat} {o : Obj} (h : W.heap[b]? = some o) (hb : Below W.heap.size W W') : W'.heap[b]? = some o := blk_below h hb
theorem isSet_any {W : World} {v : Value} {l : List Int} (own : Bool) (s : Int) {b : Bool} (h : Rd W v l) (hb : boardOk l s = b) : Calls Tryz.prog 54 #[.agg #[v, .bool own], .slice (some ⟨W.heap.size, 0, none⟩) 1 1] (W.alloc (.cells #[.int .i64 s] 3 (0, 0))) fun e W' => e = .returned (.bool b) ∧ Below W.heap.size W W' := by
  obtain ⟨A, c, rfl, hc, hC, hl⟩ := h.alloc (.cells #[.int .i64 s] 3 (0, 0))
  obtain ⟨K, hK⟩ := ev_get (impl_isSet.ev l own [s])
  have hL : Kd.C (Kd.int .i64) (W.alloc (.cells #[.int .i64 s] 3 (0, 0))) (some ⟨W.heap.size, 0, none⟩) 1 [s] := C_lit W [s] (by simp)
  refine (impl_isSet.calls K A c l own (some ⟨W.heap.size, 0, none⟩) 1 [s] b _ hC hc hL (Nat.le_refl _) ((hK K (Nat.le_refl _)).trans ?_)).mono fun _ _ ⟨he, h2⟩ => ⟨he, below_step (below_alloc (Below.refl _ _) _) h2⟩
  rw [← hb]
  unfold boardOk
  simp




end Go.Proofs.YtjoeakahfomckaaGreat.Draw
