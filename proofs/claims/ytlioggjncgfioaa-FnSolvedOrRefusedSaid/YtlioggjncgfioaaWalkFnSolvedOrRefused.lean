/- The walk of FnSolvedOrRefused: the call returns true and leaves memory as it was. Conditions: what its row lays. -/
import Derived.Test.YtlioggjncgfioaaPFnSolvedOrRefusedx
import Derived.Test.YtlioggjncgfioaaQFnSolvedOrRefused0
import Derived.Test.YtlioggjncgfioaaQFnSolvedOrRefused1
import Derived.Test.YtlioggjncgfioaaM1
import Derived.Test.YtlioggjncgfioaaM28
import Derived.WalkKit
import Derived.RowKit3
import Derived.Deep.QuietTactic
import Derived.BigQuiet
import Derived.Deep.DeepCutAuto
import Derived.Deep.CutBlock
import Derived.Deep.LoopGhost
import Derived.Outline
import Derived.Deep.DeepFit
import Derived.Test.YtlioggjncgfioaaDFnSolvedOrRefused0
import Derived.Test.YtlioggjncgfioaaDFnSolvedOrRefused1
import Derived.Test.YtlioggjncgfioaaDFnSolvedOrRefused2
import Derived.Test.YtlioggjncgfioaaDFnSolvedOrRefused3
import Derived.Test.YtlioggjncgfioaaDFnSolvedOrRefused4
namespace Go.Proofs.Ytlioggjncgfioaa.Draw
open Go.RowKit Go.Proofs.Ytlioggjncgfioaa.PFnSolvedOrRefused Go.Proofs.YtlioggjncgfioaaW.PrintWords Go.Proofs.YtlioggjncgfioaaW.PrintLast Go.Proofs.YtlioggjncgfioaaW.PrintMore Go.Proofs.YtlioggjncgfioaaM Go.Proofs.Ytlioggjncgfioaa.Pure
attribute [local go_sem] max2_int min2_int max_two min_two max_three min_three max_four min_four
set_option linter.unusedVariables false
set_option linter.unusedSimpArgs false
theorem vSize_sem {W : World} (s n : Nat) (hn : n ≤ 60) (h : s < 2 ^ n) : Calls Try.prog 25 #[.int .i64 (s : Int)] W fun e W' => e = .returned (.int .i64 (pop s : Int)) ∧ Below W.heap.size W W' := by
  obtain ⟨K, hK⟩ := ev_get (laws_vSize.ev s n hn h)
  exact (laws_vSize.calls K _ _ W (hK K (Nat.le_refl _))).mono fun _ _ ⟨he, hn⟩ => ⟨he, Drawn0.below hn⟩
theorem board_none {l : List Int} {own : Bool} {s : Int} (hb : boardOk l s = false) : solveR l own s = (0, false) ∧ canR l own s = (false, false) ∧ countR l own s = (0, false) ∧ witR l own s = (0, false) := by
  unfold solveR canR countR witR
  rw [hb]
  exact ⟨rfl, rfl, rfl, rfl⟩
set_option maxRecDepth 100000 in
set_option maxHeartbeats 4000000 in
theorem law_main {W : World} {v v2 : Value} {l l2 : List Int} (h : Rb W v l) (h2 : Rb W v2 l2) : Calls Try.prog 5 #[v, v2] W fun e W' => e = .returned (.bool true) ∧ Below W.heap.size W W' := by
  have hu := Try.underlying29
  have HB := Aside0.mk (Below.refl W.heap.size W)
  have H1 := Aside0.mk h
  have H2 := Aside0.mk h2
  clear h h2
  go_enter Try.func5, Try.ntmps5
  go_upto_region 4 with (first
    | (go_at_call 7; refine (big_any H1.out H2.out).mono ?_; rintro e w1 ⟨nd, b, rfl, rfl⟩; have nHB := Aside0.mk (pw_below_drewN HB.out nd); clear HB; have HB := nHB; clear nHB)
    | (go_at_call 27; (with_reducible refine (DrawSolveBoard_any (H1.out.below HB.out)).mono ?_); rintro e w2 ⟨u1, m, o, s, rfl, hr, hb⟩; obtain ⟨A1, c1, rfl⟩ := hr.slice; have R := Aside0.mk hr.rd; clear hr; have nHB := Aside0.mk (below_step HB.out hb); clear  HB hb; have HB := nHB; clear nHB; ))
  · go_ret
    exact ⟨rfl, HB.out⟩
  cases hbo : boardOk m s
  · obtain ⟨r1, r2, r3, r4⟩ := board_none (own := o) hbo
    have Q1 := Aside0.mk r1
    have Q2 := Aside0.mk r4
    have Q3 := Aside0.mk r2
    have Q4 := Aside0.mk r3
    clear r1 r2 r3 r4 hbo
    go_wp2_with (first
      | (go_at_call 28; (with_reducible refine (SolveBoard_any o s (R.out.alloc _) Q1.out).mono ?_); rintro e w3 ⟨rfl, hb⟩; have X := Aside0.mk (Gbox.new R.out hb); have nHB := Aside0.mk (below_step HB.out (below_step (below_alloc (Below.refl _ _) _) hb)); clear  HB R hb; have HB := nHB; clear nHB; obtain ⟨hX0, hX1⟩ := X.out.cells)
      | (go_at_call 29; (with_reducible refine (spec_SolveBoard.sem o s X.out.rd Q1.out).mono ?_); rintro e w4 ⟨rfl, hb⟩; have nX := Aside0.mk (X.out.below hb); have nHB := Aside0.mk (below_step HB.out hb); clear X HB hb; (try clear hX0 hX1); have X := nX; clear nX; have HB := nHB; clear nHB; obtain ⟨hX0, hX1⟩ := X.out.cells)
      | (go_at_call 30; (with_reducible refine (WitnessOf_any o s X.out.rd Q2.out).mono ?_); rintro e w5 ⟨rfl, hb⟩; have nX := Aside0.mk (X.out.below hb); have nHB := Aside0.mk (below_step HB.out hb); clear X HB hb; (try clear hX0 hX1); have X := nX; clear nX; have HB := nHB; clear nHB; obtain ⟨hX0, hX1⟩ := X.out.cells)
      | (go_at_call 31; (with_reducible refine (spec_WitnessOf.sem o s X.out.rd Q2.out).mono ?_); rintro e w6 ⟨rfl, hb⟩; have nX := Aside0.mk (X.out.below hb); have nHB := Aside0.mk (below_step HB.out hb); clear X HB hb; (try clear hX0 hX1); have X := nX; clear nX; have HB := nHB; clear nHB; obtain ⟨hX0, hX1⟩ := X.out.cells)
      | (go_at_call 32; (with_reducible refine (CanSolve_any o s X.out.rd Q3.out).mono ?_); rintro e w7 ⟨rfl, hb⟩; have nX := Aside0.mk (X.out.below hb); have nHB := Aside0.mk (below_step HB.out hb); clear X HB hb; (try clear hX0 hX1); have X := nX; clear nX; have HB := nHB; clear nHB; obtain ⟨hX0, hX1⟩ := X.out.cells)
      | (go_at_call 33; (with_reducible refine (spec_CanSolve.sem o s X.out.rd Q3.out).mono ?_); rintro e w8 ⟨rfl, hb⟩; have nX := Aside0.mk (X.out.below hb); have nHB := Aside0.mk (below_step HB.out hb); clear X HB hb; (try clear hX0 hX1); have X := nX; clear nX; have HB := nHB; clear nHB; obtain ⟨hX0, hX1⟩ := X.out.cells)
      | (go_at_call 34; (with_reducible refine (CountSolutions_any o s X.out.rd Q4.out).mono ?_); rintro e w9 ⟨rfl, hb⟩; have nX := Aside0.mk (X.out.below hb); have nHB := Aside0.mk (below_step HB.out hb); clear X HB hb; (try clear hX0 hX1); have X := nX; clear nX; have HB := nHB; clear nHB; obtain ⟨hX0, hX1⟩ := X.out.cells)
      | (go_at_call 35; (with_reducible refine (spec_CountSolutions.sem o s X.out.rd Q4.out).mono ?_); rintro e w10 ⟨rfl, hb⟩; have nX := Aside0.mk (X.out.below hb); have nHB := Aside0.mk (below_step HB.out hb); clear X HB hb; (try clear hX0 hX1); have X := nX; clear nX; have HB := nHB; clear nHB; obtain ⟨hX0, hX1⟩ := X.out.cells))
    go_ret
    exact ⟨rfl, HB.out⟩
  · have hG := (boardOk_of hbo).1
    have HG := Aside0.mk ((good_iff m).2 hG)
    obtain ⟨n, hn⟩ : ∃ n, (svG m o).quiet.length = n := ⟨_, rfl⟩
    have hn16 : n ≤ 16 := by
      have h1 := (inv_graph hG o).rq
      have h2 := hG.top
      have h3 : (svOf (togs m o)).quiet.length = n := hn
      omega
    have HN : Aside0 (((svOf (togs m o)).quiet.length : Int) = (n : Int)) := ⟨congrArg _ hn⟩
    by_cases e : (reach (svG m o).ps s.toNat).1 = 0
    · obtain ⟨p, r1, r2, r3, r4, r5, r6⟩ := board_solved hbo e
      rw [hn] at r3
      have Q1 := Aside0.mk r1
      have Q2 := Aside0.mk r4
      have Q3 := Aside0.mk r2
      have Q4 := Aside0.mk r3
      have Q5 := Aside0.mk r5
      have Q6 := Aside0.mk r6
      have t1 : ((2 : Int) ^ n != wrap64 (2 ^ n)) = false := by
        have h2 : (2 : Nat) ^ n ≤ 2 ^ 16 := Nat.pow_le_pow_right (by decide) hn16
        rw [← pow_cast]
        generalize 2 ^ n = k at h2 ⊢
        rw [wrap_id (by omega) (by omega)]
        simp
      clear r1 r2 r3 r4 r5 r6 hbo e hn hG
      go_wp2_with (first
        | (go_at_call 28; (with_reducible refine (SolveBoard_any o s (R.out.alloc _) Q1.out).mono ?_); rintro e w3 ⟨rfl, hb⟩; have X := Aside0.mk (Gbox.new R.out hb); have nHB := Aside0.mk (below_step HB.out (below_step (below_alloc (Below.refl _ _) _) hb)); clear  HB R hb; have HB := nHB; clear nHB; obtain ⟨hX0, hX1⟩ := X.out.cells)
        | (go_at_call 29; (with_reducible refine (spec_SolveBoard.sem o s X.out.rd Q1.out).mono ?_); rintro e w4 ⟨rfl, hb⟩; have nX := Aside0.mk (X.out.below hb); have nHB := Aside0.mk (below_step HB.out hb); clear X HB hb; (try clear hX0 hX1); have X := nX; clear nX; have HB := nHB; clear nHB; obtain ⟨hX0, hX1⟩ := X.out.cells)
        | (go_at_call 30; (with_reducible refine (WitnessOf_any o s X.out.rd Q2.out).mono ?_); rintro e w5 ⟨rfl, hb⟩; have nX := Aside0.mk (X.out.below hb); have nHB := Aside0.mk (below_step HB.out hb); clear X HB hb; (try clear hX0 hX1); have X := nX; clear nX; have HB := nHB; clear nHB; obtain ⟨hX0, hX1⟩ := X.out.cells)
        | (go_at_call 31; (with_reducible refine (spec_WitnessOf.sem o s X.out.rd Q2.out).mono ?_); rintro e w6 ⟨rfl, hb⟩; have nX := Aside0.mk (X.out.below hb); have nHB := Aside0.mk (below_step HB.out hb); clear X HB hb; (try clear hX0 hX1); have X := nX; clear nX; have HB := nHB; clear nHB; obtain ⟨hX0, hX1⟩ := X.out.cells)
        | (go_at_call 32; (with_reducible refine (CanSolve_any o s X.out.rd Q3.out).mono ?_); rintro e w7 ⟨rfl, hb⟩; have nX := Aside0.mk (X.out.below hb); have nHB := Aside0.mk (below_step HB.out hb); clear X HB hb; (try clear hX0 hX1); have X := nX; clear nX; have HB := nHB; clear nHB; obtain ⟨hX0, hX1⟩ := X.out.cells)
        | (go_at_call 33; (with_reducible refine (spec_CanSolve.sem o s X.out.rd Q3.out).mono ?_); rintro e w8 ⟨rfl, hb⟩; have nX := Aside0.mk (X.out.below hb); have nHB := Aside0.mk (below_step HB.out hb); clear X HB hb; (try clear hX0 hX1); have X := nX; clear nX; have HB := nHB; clear nHB; obtain ⟨hX0, hX1⟩ := X.out.cells)
        | (go_at_call 34; (with_reducible refine (CountSolutions_any o s X.out.rd Q4.out).mono ?_); rintro e w9 ⟨rfl, hb⟩; have nX := Aside0.mk (X.out.below hb); have nHB := Aside0.mk (below_step HB.out hb); clear X HB hb; (try clear hX0 hX1); have X := nX; clear nX; have HB := nHB; clear nHB; obtain ⟨hX0, hX1⟩ := X.out.cells)
        | (go_at_call 35; (with_reducible refine (spec_CountSolutions.sem o s X.out.rd Q4.out).mono ?_); rintro e w10 ⟨rfl, hb⟩; have nX := Aside0.mk (X.out.below hb); have nHB := Aside0.mk (below_step HB.out hb); clear X HB hb; (try clear hX0 hX1); have X := nX; clear nX; have HB := nHB; clear nHB; obtain ⟨hX0, hX1⟩ := X.out.cells)
        | (go_at_call 15; (with_reducible refine (NullityOf_any o X.out.rd HG.out ((if_pos rfl).trans HN.out)).mono ?_); rintro e w11 ⟨rfl, hb⟩; have nX := Aside0.mk (X.out.below hb); have nHB := Aside0.mk (below_step HB.out hb); clear X HB hb; (try clear hX0 hX1); have X := nX; clear nX; have HB := nHB; clear nHB; obtain ⟨hX0, hX1⟩ := X.out.cells)
        | (go_at_call 23; (with_reducible refine (impl_EffectOf.sem o p X.out.rd Q5.out).mono ?_); rintro e w12 ⟨rfl, hb⟩; have nX := Aside0.mk (X.out.below hb); have nHB := Aside0.mk (below_step HB.out hb); clear X HB hb; (try clear hX0 hX1); have X := nX; clear nX; have HB := nHB; clear nHB; obtain ⟨hX0, hX1⟩ := X.out.cells)
        | (go_at_call 36; (with_reducible refine (impl_PressAll.sem o s p X.out.rd Q6.out).mono ?_); rintro e w13 ⟨rfl, hb⟩; have nX := Aside0.mk (X.out.below hb); have nHB := Aside0.mk (below_step HB.out hb); clear X HB hb; (try clear hX0 hX1); have X := nX; clear nX; have HB := nHB; clear nHB; obtain ⟨hX0, hX1⟩ := X.out.cells))
      go_ret
      exact ⟨rfl, HB.out⟩
    · obtain ⟨b, r1, r2, r3, r4, r5, r6, r7⟩ := board_refused hbo e
      obtain ⟨h0, h1, h2⟩ := inSet_lt (boardOk_of hbo).2
      have h16 : (2 : Nat) ^ m.length ≤ 2 ^ 16 := Nat.pow_le_pow_right (by decide) hG.top
      obtain ⟨y, rfl⟩ : ∃ y : Nat, s = y := ⟨s.toNat, h2⟩
      rw [Int.toNat_natCast] at r7 h1
      have Q1 := Aside0.mk r1
      have Q2 := Aside0.mk r4
      have Q3 := Aside0.mk r2
      have Q4 := Aside0.mk r3
      have Q5 := Aside0.mk r5
      have ea := and_nat b y (by omega) (by omega)
      have hand : b &&& y < 2 ^ 16 := Nat.lt_of_le_of_lt Nat.and_le_left (by omega)
      have t1 : ((Int.tmod ((pop (b &&& y) : Nat) : Int) 2) == 1) = true := by
        show ((((pop (b &&& y)) % 2 : Nat) : Int) == 1) = true
        rw [r7]
        rfl
      clear r1 r2 r3 r4 r5 hbo e hn hG h0 h2
      go_wp2_with (first
        | (go_at_call 28; (with_reducible refine (SolveBoard_any o (y : Int) (R.out.alloc _) Q1.out).mono ?_); rintro e w3 ⟨rfl, hb⟩; have X := Aside0.mk (Gbox.new R.out hb); have nHB := Aside0.mk (below_step HB.out (below_step (below_alloc (Below.refl _ _) _) hb)); clear  HB R hb; have HB := nHB; clear nHB; obtain ⟨hX0, hX1⟩ := X.out.cells)
        | (go_at_call 29; (with_reducible refine (spec_SolveBoard.sem o (y : Int) X.out.rd Q1.out).mono ?_); rintro e w4 ⟨rfl, hb⟩; have nX := Aside0.mk (X.out.below hb); have nHB := Aside0.mk (below_step HB.out hb); clear X HB hb; (try clear hX0 hX1); have X := nX; clear nX; have HB := nHB; clear nHB; obtain ⟨hX0, hX1⟩ := X.out.cells)
        | (go_at_call 30; (with_reducible refine (WitnessOf_any o (y : Int) X.out.rd Q2.out).mono ?_); rintro e w5 ⟨rfl, hb⟩; have nX := Aside0.mk (X.out.below hb); have nHB := Aside0.mk (below_step HB.out hb); clear X HB hb; (try clear hX0 hX1); have X := nX; clear nX; have HB := nHB; clear nHB; obtain ⟨hX0, hX1⟩ := X.out.cells)
        | (go_at_call 31; (with_reducible refine (spec_WitnessOf.sem o (y : Int) X.out.rd Q2.out).mono ?_); rintro e w6 ⟨rfl, hb⟩; have nX := Aside0.mk (X.out.below hb); have nHB := Aside0.mk (below_step HB.out hb); clear X HB hb; (try clear hX0 hX1); have X := nX; clear nX; have HB := nHB; clear nHB; obtain ⟨hX0, hX1⟩ := X.out.cells)
        | (go_at_call 32; (with_reducible refine (CanSolve_any o (y : Int) X.out.rd Q3.out).mono ?_); rintro e w7 ⟨rfl, hb⟩; have nX := Aside0.mk (X.out.below hb); have nHB := Aside0.mk (below_step HB.out hb); clear X HB hb; (try clear hX0 hX1); have X := nX; clear nX; have HB := nHB; clear nHB; obtain ⟨hX0, hX1⟩ := X.out.cells)
        | (go_at_call 33; (with_reducible refine (spec_CanSolve.sem o (y : Int) X.out.rd Q3.out).mono ?_); rintro e w8 ⟨rfl, hb⟩; have nX := Aside0.mk (X.out.below hb); have nHB := Aside0.mk (below_step HB.out hb); clear X HB hb; (try clear hX0 hX1); have X := nX; clear nX; have HB := nHB; clear nHB; obtain ⟨hX0, hX1⟩ := X.out.cells)
        | (go_at_call 34; (with_reducible refine (CountSolutions_any o (y : Int) X.out.rd Q4.out).mono ?_); rintro e w9 ⟨rfl, hb⟩; have nX := Aside0.mk (X.out.below hb); have nHB := Aside0.mk (below_step HB.out hb); clear X HB hb; (try clear hX0 hX1); have X := nX; clear nX; have HB := nHB; clear nHB; obtain ⟨hX0, hX1⟩ := X.out.cells)
        | (go_at_call 35; (with_reducible refine (spec_CountSolutions.sem o (y : Int) X.out.rd Q4.out).mono ?_); rintro e w10 ⟨rfl, hb⟩; have nX := Aside0.mk (X.out.below hb); have nHB := Aside0.mk (below_step HB.out hb); clear X HB hb; (try clear hX0 hX1); have X := nX; clear nX; have HB := nHB; clear nHB; obtain ⟨hX0, hX1⟩ := X.out.cells)
        | (go_at_call 15; (with_reducible refine (NullityOf_any o X.out.rd HG.out ((if_pos rfl).trans HN.out)).mono ?_); rintro e w11 ⟨rfl, hb⟩; have nX := Aside0.mk (X.out.below hb); have nHB := Aside0.mk (below_step HB.out hb); clear X HB hb; (try clear hX0 hX1); have X := nX; clear nX; have HB := nHB; clear nHB; obtain ⟨hX0, hX1⟩ := X.out.cells)
        | (go_at_call 37; (with_reducible refine (impl_IsQuiet.sem o (b : Int) X.out.rd Q5.out).mono ?_); rintro e w12 ⟨rfl, hb⟩; have nX := Aside0.mk (X.out.below hb); have nHB := Aside0.mk (below_step HB.out hb); clear X HB hb; (try clear hX0 hX1); have X := nX; clear nX; have HB := nHB; clear nHB; obtain ⟨hX0, hX1⟩ := X.out.cells)
        | (go_at_call 25; (with_reducible refine (vSize_sem (b &&& y) 16 (by omega) hand).mono ?_); rintro e w13 ⟨rfl, hb⟩; have nX := Aside0.mk (X.out.below hb); have nHB := Aside0.mk (below_step HB.out hb); clear X HB hb; (try clear hX0 hX1); have X := nX; clear nX; have HB := nHB; clear nHB; obtain ⟨hX0, hX1⟩ := X.out.cells))
      go_ret
      exact ⟨rfl, HB.out⟩
theorem FnSolvedOrRefused_walk (a0 : Option Addr) (len0 cap0 : Nat) (z0 : List Int) (a1 : Option Addr) (len1 cap1 : Nat) (z1 : List Int) (w : World) (h0 : YtlioggjncgfioaaGr.IsRow .u8 w a0 len0 cap0 z0) (y0 : len0 * 1 ≤ 140737488351232) (h1 : YtlioggjncgfioaaGr.IsRow .u8 w a1 len1 cap1 z1) (y1 : len1 * 1 ≤ 140737488351232) :
    Calls Try.prog 5 #[.slice a0 len0 cap0, .slice a1 len1 cap1] w fun e w' => e = .returned (.bool true) ∧ Below w.heap.size w w' := by
  obtain ⟨l0, g0⟩ := Rb.row h0
  obtain ⟨l1, g1⟩ := Rb.row h1
  exact law_main g0 g1
end Go.Proofs.Ytlioggjncgfioaa.Draw
