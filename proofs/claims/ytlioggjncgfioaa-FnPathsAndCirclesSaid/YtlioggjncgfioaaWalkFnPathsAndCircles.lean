/- The walk of FnPathsAndCircles: the call returns true and leaves memory as it was. Conditions: what its row lays. -/
import Derived.Test.YtlioggjncgfioaaPFnPathsAndCirclesx
import Derived.Test.YtlioggjncgfioaaQFnPathsAndCircles0
import Derived.Test.YtlioggjncgfioaaM1
import Derived.Test.YtlioggjncgfioaaM24
import Derived.WalkKit
import Derived.RowKit3
import Derived.Deep.QuietTactic
import Derived.BigQuiet
import Derived.Deep.DeepCutAuto
import Derived.Deep.CutBlock
import Derived.Deep.LoopGhost
import Derived.Outline
import Derived.Deep.DeepFit
import Derived.Test.YtlioggjncgfioaaDFnPathsAndCircles0
import Derived.Test.YtlioggjncgfioaaDFnPathsAndCircles1
import Derived.Test.YtlioggjncgfioaaDFnPathsAndCircles2
import Derived.Test.YtlioggjncgfioaaDFnPathsAndCircles3
namespace Go.Proofs.Ytlioggjncgfioaa.Draw
open Go.RowKit Go.Proofs.Ytlioggjncgfioaa.PFnPathsAndCircles Go.Proofs.YtlioggjncgfioaaW.PrintWords Go.Proofs.YtlioggjncgfioaaW.PrintLast Go.Proofs.YtlioggjncgfioaaW.PrintMore Go.Proofs.YtlioggjncgfioaaM Go.Proofs.Ytlioggjncgfioaa.Pure
attribute [local go_sem] max2_int min2_int max_two min_two max_three min_three max_four min_four
set_option linter.unusedVariables false
set_option linter.unusedSimpArgs false
set_option maxRecDepth 100000 in
set_option maxHeartbeats 4000000 in
theorem law_main {W : World} {v v2 : Value} {l l2 : List Int} (h : Rb W v l) (h2 : Rb W v2 l2) : Calls Try.prog 3 #[v, v2] W fun e W' => e = .returned (.bool true) ∧ Below W.heap.size W W' := by
  have hu := Try.underlying29
  have HB := Aside0.mk (Below.refl W.heap.size W)
  have H1 := Aside0.mk h
  have H2 := Aside0.mk h2
  clear h h2
  go_enter Try.func3, Try.ntmps3
  go_upto_region 11 with (first
    | (go_at_call 7; refine (big_any H1.out H2.out).mono ?_; rintro e w1 ⟨nd, b, rfl, rfl⟩; have nHB := Aside0.mk (pw_below_drewN HB.out nd); clear HB; have HB := nHB; clear nHB)
    | (go_at_call 8; (with_reducible refine (DrawPathNullity_any (H1.out.below HB.out)).mono ?_); rintro e w2 ⟨n1, o1, rfl, hb⟩; obtain ⟨⟨x1, k1⟩, hq⟩ : ∃ r, (pathR n1 o1) = r := ⟨_, rfl⟩; have Q1 := Aside0.mk hq; clear hq; have nHB := Aside0.mk (below_step HB.out hb); clear  HB hb; have HB := nHB; clear nHB; )
    | (go_at_call 9; (with_reducible refine (impl_PathNullity.sem Q1.out).mono ?_); rintro e w3 ⟨rfl, hb⟩; have nHB := Aside0.mk (below_step HB.out hb); clear  HB hb; have HB := nHB; clear nHB; )
    | (go_at_call 10; (with_reducible refine (spec_PathNullity.sem Q1.out).mono ?_); rintro e w4 ⟨rfl, hb⟩; have nHB := Aside0.mk (below_step HB.out hb); clear  HB hb; have HB := nHB; clear nHB; )
    | (go_at_call 11; (with_reducible refine (DrawCircleNullity_any (H2.out.below HB.out)).mono ?_); rintro e w5 ⟨n2, o2, rfl, hb⟩; obtain ⟨⟨x2, k2⟩, hq⟩ : ∃ r, (circleR n2 o2) = r := ⟨_, rfl⟩; have Q2 := Aside0.mk hq; clear hq; have nHB := Aside0.mk (below_step HB.out hb); clear  HB hb; have HB := nHB; clear nHB; )
    | (go_at_call 12; (with_reducible refine (impl_CircleNullity.sem Q2.out).mono ?_); rintro e w6 ⟨rfl, hb⟩; have nHB := Aside0.mk (below_step HB.out hb); clear  HB hb; have HB := nHB; clear nHB; )
    | (go_at_call 13; (with_reducible refine (spec_CircleNullity.sem Q2.out).mono ?_); rintro e w7 ⟨rfl, hb⟩; have nHB := Aside0.mk (below_step HB.out hb); clear  HB hb; have HB := nHB; clear nHB; ))
  · go_ret
    exact ⟨rfl, HB.out⟩
  obtain ⟨b88, hcb⟩ : ∃ c, (k2 && decide (n2 ≤ 16)) = c := ⟨_, rfl⟩
  have HC := Aside0.mk hcb
  clear hcb
  go_cut [88] (fun v88 wc => v88 = .bool b88 ∧ Aside0 (Below W.heap.size W wc))
  case first =>
    have hcb := HC.out
    by_cases hle : n2 ≤ 16
    all_goals
      cases k2
      all_goals
        simp only [hle, decide_true, decide_false, Bool.and_true, Bool.and_false, Bool.true_and, Bool.false_and] at hcb
        subst hcb
        go_wp2
        go_meet
        case rel => exact ⟨rfl, HB⟩
  case rest =>
    clear HB
    obtain ⟨rfl, HB⟩ := hcut
    go_upto_if 88 with (fail)
    go_cut [] (fun wc => Aside0 (Below W.heap.size W wc))
    case first =>
      cases b88
      · go_wp2
        go_meet
        case rel => exact HB
      · obtain ⟨rfl, h16⟩ : k2 = true ∧ n2 ≤ 16 := by simpa using HC.out
        obtain ⟨m, rfl, h3, hm, hg, hx⟩ := circle_nul Q2.out h16
        have HG := Aside0.mk hg
        have HX := Aside0.mk hx
        clear hg hx
        go_wp2_with (first
          | (go_at_call 14; (with_reducible refine (impl_CircleGraph.sem m o2 h3 hm).mono ?_); rintro e w8 ⟨u3, rfl, hr, hb⟩; obtain ⟨A3, c3, rfl⟩ := hr.slice; have R3 := Aside0.mk hr.rd; clear hr; have nHB := Aside0.mk (below_step HB.out hb); clear  HB hb; have HB := nHB; clear nHB; )
          | (go_at_call 15; (with_reducible refine (NullityOf_any o2 (R3.out.alloc _) HG.out ((if_pos rfl).trans HX.out)).mono ?_); rintro e w9 ⟨rfl, hb⟩; have X3 := Aside0.mk (Gbox.new R3.out hb); have nHB := Aside0.mk (below_step HB.out (below_step (below_alloc (Below.refl _ _) _) hb)); clear  HB R3 hb; have HB := nHB; clear nHB; obtain ⟨hX30, hX31⟩ := X3.out.cells))
        go_meet
        case rel => exact HB
    case rest =>
      have HB := hcut
      clear hcut HC
      go_upto_region 16 with (fail)
      obtain ⟨b115, hcb⟩ : ∃ c, (k1 && decide (n1 ≤ 16)) = c := ⟨_, rfl⟩
      have HC := Aside0.mk hcb
      clear hcb
      go_cut [115] (fun v115 wc => v115 = .bool b115 ∧ Aside0 (Below W.heap.size W wc))
      case first =>
        have hcb := HC.out
        by_cases hle : n1 ≤ 16
        all_goals
          cases k1
          all_goals
            simp only [hle, decide_true, decide_false, Bool.and_true, Bool.and_false, Bool.true_and, Bool.false_and] at hcb
            subst hcb
            go_wp2
            go_meet
            case rel => exact ⟨rfl, HB⟩
      case rest =>
        clear HB
        obtain ⟨rfl, HB⟩ := hcut
        go_upto_if 115 with (fail)
        go_cut [] (fun wc => Aside0 (Below W.heap.size W wc))
        case first =>
          cases b115
          · go_wp2
            go_meet
            case rel => exact HB
          · obtain ⟨rfl, h16⟩ : k1 = true ∧ n1 ≤ 16 := by simpa using HC.out
            obtain ⟨m, rfl, h3, hm, hg, hx⟩ := path_nul Q1.out h16
            have HG := Aside0.mk hg
            have HX := Aside0.mk hx
            clear hg hx
            go_wp2_with (first
              | (go_at_call 16; (with_reducible refine (impl_PathGraph.sem m o1 h3 hm).mono ?_); rintro e w10 ⟨u3, rfl, hr, hb⟩; obtain ⟨A3, c3, rfl⟩ := hr.slice; have R3 := Aside0.mk hr.rd; clear hr; have nHB := Aside0.mk (below_step HB.out hb); clear  HB hb; have HB := nHB; clear nHB; )
              | (go_at_call 15; (with_reducible refine (NullityOf_any o1 (R3.out.alloc _) HG.out ((if_pos rfl).trans HX.out)).mono ?_); rintro e w11 ⟨rfl, hb⟩; have X3 := Aside0.mk (Gbox.new R3.out hb); have nHB := Aside0.mk (below_step HB.out (below_step (below_alloc (Below.refl _ _) _) hb)); clear  HB R3 hb; have HB := nHB; clear nHB; obtain ⟨hX30, hX31⟩ := X3.out.cells))
            go_meet
            case rel => exact HB
        case rest =>
          have HB := hcut
          clear hcut HC
          go_upto_region 21 with (fail)
          obtain ⟨b142, hcb⟩ : ∃ c, (k1 && decide (n1 ≤ 40)) = c := ⟨_, rfl⟩
          have HC := Aside0.mk hcb
          clear hcb
          go_cut [142] (fun v142 wc => v142 = .bool b142 ∧ Aside0 (Below W.heap.size W wc))
          case first =>
            have hcb := HC.out
            by_cases hle : n1 ≤ 40
            all_goals
              cases k1
              all_goals
                simp only [hle, decide_true, decide_false, Bool.and_true, Bool.and_false, Bool.true_and, Bool.false_and] at hcb
                subst hcb
                go_wp2
                go_meet
                case rel => exact ⟨rfl, HB⟩
          case rest =>
            clear HB
            obtain ⟨rfl, HB⟩ := hcut
            go_upto_if 142 with (fail)
            cases b142
            · go_wp2
              go_ret
              exact ⟨rfl, HB.out⟩
            · obtain ⟨rfl, h16⟩ : k1 = true ∧ n1 ≤ 40 := by simpa using HC.out
              obtain ⟨g1, g2⟩ := grid_nul Q1.out h16
              have G1 := Aside0.mk g1
              have G2 := Aside0.mk g2
              clear g1 g2
              go_wp2_with (first
                | (go_at_call 17; (with_reducible refine (impl_GridNullity.sem G1.out).mono ?_); rintro e w12 ⟨rfl, hb⟩; clear G1; have nHB := Aside0.mk (below_step HB.out hb); clear  HB hb; have HB := nHB; clear nHB; )
                | (go_at_call 17; (with_reducible refine (impl_GridNullity.sem G2.out).mono ?_); rintro e w13 ⟨rfl, hb⟩; have nHB := Aside0.mk (below_step HB.out hb); clear  HB hb; have HB := nHB; clear nHB; ))
              go_ret
              exact ⟨rfl, HB.out⟩
theorem FnPathsAndCircles_walk (a0 : Option Addr) (len0 cap0 : Nat) (z0 : List Int) (a1 : Option Addr) (len1 cap1 : Nat) (z1 : List Int) (w : World) (h0 : YtlioggjncgfioaaGr.IsRow .u8 w a0 len0 cap0 z0) (y0 : len0 * 1 ≤ 140737488351232) (h1 : YtlioggjncgfioaaGr.IsRow .u8 w a1 len1 cap1 z1) (y1 : len1 * 1 ≤ 140737488351232) :
    Calls Try.prog 3 #[.slice a0 len0 cap0, .slice a1 len1 cap1] w fun e w' => e = .returned (.bool true) ∧ Below w.heap.size w w' := by
  obtain ⟨l0, g0⟩ := Rb.row h0
  obtain ⟨l1, g1⟩ := Rb.row h1
  exact law_main g0 g1
end Go.Proofs.Ytlioggjncgfioaa.Draw
