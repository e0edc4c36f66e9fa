/- The walk of FnLitPresses: the call returns true and leaves memory as it was. Conditions: what its row lays. -/
import Derived.Test.YtjkijnggjjoheaaPFnLitPressesx
import Derived.Test.YtjkijnggjjoheaaQFnLitPresses0
import Derived.Test.YtjkijnggjjoheaaQFnLitPresses1
import Derived.Test.YtjkijnggjjoheaaM1
import Derived.Test.YtjkijnggjjoheaaM18
import Derived.Test.YtjkijnggjjoheaaM19
import Derived.WalkKit
import Derived.RowKit3
import Derived.Deep.QuietTactic
import Derived.BigQuiet
import Derived.Deep.DeepCutAuto
import Derived.Deep.CutBlock
import Derived.Deep.LoopGhost
import Derived.Outline
import Derived.Deep.DeepFit
import Derived.Test.YtjkijnggjjoheaaDFnLitPresses0
import Derived.Test.YtjkijnggjjoheaaDFnLitPresses1
import Derived.Test.YtjkijnggjjoheaaDFnLitPresses2
import Derived.Test.YtjkijnggjjoheaaDFnLitPresses3
namespace Go.Proofs.Ytjkijnggjjoheaa.Draw
open Go.RowKit Go.Proofs.Ytjkijnggjjoheaa.PFnLitPresses Go.Proofs.YtjkijnggjjoheaaW.PrintWords Go.Proofs.YtjkijnggjjoheaaW.PrintLast Go.Proofs.YtjkijnggjjoheaaW.PrintMore Go.Proofs.YtjkijnggjjoheaaM Go.Proofs.Ytjkijnggjjoheaa.Pure
attribute [local go_sem] max2_int min2_int max_two min_two max_three min_three max_four min_four
set_option linter.unusedVariables false
set_option linter.unusedSimpArgs false
theorem wayR_back {l : List Int} {a g : Int} {r : List Int} (h : wayR l a g = (r, true)) : ∃ r2, wayR l g a = (r2, true) ∧ r2.length = r.length := by
  obtain ⟨hS, hG, hn, ha, hg, hw⟩ := wayR_ok h
  obtain ⟨r2, h2, h3⟩ := wayOf_back hG (inSet_lt ha).2.1 (inSet_lt hg).2.1 hw
  refine ⟨r2, ?_, h3⟩
  unfold wayR
  rw [if_pos (by simp only [Bool.and_eq_true, decide_eq_true_eq]; exact ⟨⟨⟨(good_iff l).2 hG, hn⟩, hg⟩, ha⟩)]
  exact h2
theorem wayR_word {l : List Int} {a g : Int} {r : List Int} (h : wayR l a g = (r, true)) (h6 : l.length ≤ 6 ∨ 16 ≤ l.length) : litWord l a r = (g, true) := by
  obtain ⟨hS, hG, hn, ha, hg, hw⟩ := wayR_ok h
  obtain ⟨v, _, hv, hv2, hgo, hb⟩ := wayOf_some hG (inSet_lt ha).2.1 (inSet_lt hg).2.1 hw
  have h64 : 2 ^ l.length ≤ 2 ^ 6 := Nat.pow_le_pow_right (by decide) (by omega)
  rw [litWord_of hG hn ha (by omega) hb, (inSet_lt ha).2.2, hgo, ← (inSet_lt hg).2.2]
theorem wayR_orbit {l : List Int} {a g : Int} {r : List Int} (h : wayR l a g = (r, true)) : (ints (orbitOf l false a.toNat)).contains g = true := by
  obtain ⟨hS, hG, hn, ha, hg, hw⟩ := wayR_ok h
  rw [(inSet_lt hg).2.2, ints_contains]
  exact List.contains_iff_mem.2 (wayOf_orbit hG (inSet_lt ha).2.1 (inSet_lt hg).2.1 hw)
theorem movesR_press {l : List Int} {s : Int} {r : List Int} {ok : Bool} (h : movesR l s = (r, ok)) (j : Nat) (hj : j < r.length) : ∃ x, litWord l s [rd r (j : Int)] = (x, true) ∧ x ≠ s := by
  unfold movesR at h
  split at h
  · next e =>
    injection h with h1 h2
    simp only [Bool.and_eq_true, decide_eq_true_eq] at e
    rw [h1.symm] at hj ⊢
    exact moves_press ((good_iff l).1 e.1.1) e.1.2 e.2 (rd_mem _ _ (by omega) (by omega))
  · injection h with h1 h2
    rw [← h1] at hj
    simp at hj
set_option maxRecDepth 100000 in
set_option maxHeartbeats 4000000 in
theorem law_main {W : World} {v v2 : Value} {l l2 : List Int} (h : Rb W v l) (h2 : Rb W v2 l2) : Calls Try.prog 4 #[v, v2] W fun e W' => e = .returned (.bool true) ∧ Below W.heap.size W W' := by
  have hu := Try.underlying26
  have HB := Aside0.mk (Below.refl W.heap.size W)
  have H1 := Aside0.mk h
  have H2 := Aside0.mk h2
  clear h h2
  go_enter Try.func4, Try.ntmps4
  go_upto_if 80 with (first
    | (go_at_call 5; refine (big_any H1.out H2.out).mono ?_; rintro e w1 ⟨nd, b, rfl, rfl⟩; have nHB := Aside0.mk (pw_below_drewN HB.out nd); clear HB; have HB := nHB; clear nHB)
    | (go_at_call 22; refine (DrawLitPress_any (H1.out.below HB.out)).mono ?_; rintro e w2 ⟨u1, m1, o1, s1, i1, rfl, hr, hb⟩; obtain ⟨A1, c1, rfl⟩ := hr.slice; have R1 := Aside0.mk hr.rd; clear hr; obtain ⟨⟨x1, k1⟩, hq⟩ : ∃ r, (litWord m1 s1 [i1]) = r := ⟨_, rfl⟩; have Q1 := Aside0.mk hq; clear hq; have nHB := Aside0.mk (below_step HB.out hb); clear  HB hb; have HB := nHB; clear nHB; )
    | (go_at_call 23; (with_reducible refine (impl_LitPress.sem o1 s1 i1 (R1.out.alloc _) Q1.out).mono ?_); rintro e w3 ⟨rfl, hb⟩; have X1 := Aside0.mk (Gbox.new R1.out hb); have nHB := Aside0.mk (below_step HB.out (below_step (below_alloc (Below.refl _ _) _) hb)); clear  HB R1 hb; have HB := nHB; clear nHB; obtain ⟨hX10, hX11⟩ := X1.out.cells)
    | (go_at_call 24; (with_reducible refine (spec_LitPress.sem o1 s1 i1 X1.out.rd Q1.out).mono ?_); rintro e w4 ⟨rfl, hb⟩; have nX1 := Aside0.mk (X1.out.below hb); have nHB := Aside0.mk (below_step HB.out hb); clear X1 HB hb; (try clear hX10 hX11); have X1 := nX1; clear nX1; have HB := nHB; clear nHB; obtain ⟨hX10, hX11⟩ := X1.out.cells))
  · go_ret
    exact ⟨rfl, HB.out⟩
  go_cut [] (fun wc => Aside0 (Below W.heap.size W wc))
  case first =>
    cases k1
    · go_wp2
      go_meet
      case rel => exact HB
    · have Q2 := Aside0.mk (lit_back Q1.out)
      go_wp2_with (go_at_call 23; (with_reducible refine (impl_LitPress.sem o1 x1 i1 X1.out.rd Q2.out).mono ?_); rintro e w5 ⟨rfl, hb⟩; have nX1 := Aside0.mk (X1.out.below hb); have nHB := Aside0.mk (below_step HB.out hb); clear X1 HB hb; (try clear hX10 hX11); have X1 := nX1; clear nX1; have HB := nHB; clear nHB; obtain ⟨hX10, hX11⟩ := X1.out.cells)
      go_meet
      case rel => exact HB
  case rest =>
    have HB := hcut
    clear X1 hX10 hX11 hcut
    go_upto_region 16 with (first
      | (go_at_call 25; (with_reducible refine (DrawWayTo_any (H2.out.below HB.out)).mono ?_); rintro e w6 ⟨u2, m2, o2, a2, g2, rfl, hr, hb, h6⟩; obtain ⟨A2, c2, rfl⟩ := hr.slice; have R2 := Aside0.mk hr.rd; have H6 := Aside0.mk h6; clear hr h6; obtain ⟨⟨x2, k2⟩, hq⟩ : ∃ r, (wayR m2 a2 g2) = r := ⟨_, rfl⟩; have Q2 := Aside0.mk hq; clear hq; obtain ⟨b2, hq_⟩ : ∃ r, (setOk m2 a2) = r := ⟨_, rfl⟩; have SB := Aside0.mk hq_; clear hq_; obtain ⟨os, hq_⟩ : ∃ r, (if b2 = true then ints (orbitOf m2 false a2.toNat) else []) = r := ⟨_, rfl⟩; have EO := Aside0.mk hq_; clear hq_; have nHB := Aside0.mk (below_step HB.out hb); clear  HB hb; have HB := nHB; clear nHB; )
      | (go_at_call 26; (with_reducible refine (impl_WayTo.sem o2 a2 g2 (R2.out.alloc _) Q2.out).mono ?_); rintro e w7 ⟨u3, rfl, hr, hb⟩; obtain ⟨A3, c3, rfl⟩ := hr.slice; have R3 := Aside0.mk hr.rd; clear hr; have X2 := Aside0.mk (Gbox.new R2.out hb); have nHB := Aside0.mk (below_step HB.out (below_step (below_alloc (Below.refl _ _) _) hb)); clear  HB R2 hb; have HB := nHB; clear nHB; obtain ⟨hX20, hX21⟩ := X2.out.cells)
      | (go_at_call 27; (with_reducible refine (spec_WayTo.sem o2 a2 g2 X2.out.rd Q2.out).mono ?_); rintro e w8 ⟨u4, rfl, hr, hb⟩; obtain ⟨A4, c4, rfl⟩ := hr.slice; have R4 := Aside0.mk hr.rd; clear hr; have nX2 := Aside0.mk (X2.out.below hb); have nR3 := Aside0.mk (R3.out.below hb); have nHB := Aside0.mk (below_step HB.out hb); clear X2 R3 HB hb; (try clear hX20 hX21); have X2 := nX2; clear nX2; have R3 := nR3; clear nR3; have HB := nHB; clear nHB; obtain ⟨hX20, hX21⟩ := X2.out.cells)
      | (go_at_call 18; (with_reducible refine (impl_ReachOf.sem o2 a2 X2.out.rd SB.out EO.out).mono ?_); rintro e w9 ⟨u5, rfl, hr, hb⟩; obtain ⟨A5, c5, rfl⟩ := hr.slice; have R5 := Aside0.mk hr.rd; clear hr; have nX2 := Aside0.mk (X2.out.below hb); have nR3 := Aside0.mk (R3.out.below hb); have nR4 := Aside0.mk (R4.out.below hb); have nHB := Aside0.mk (below_step HB.out hb); clear X2 R3 R4 HB hb; (try clear hX20 hX21); have X2 := nX2; clear nX2; have R3 := nR3; clear nR3; have R4 := nR4; clear nR4; have HB := nHB; clear nHB; obtain ⟨hX20, hX21⟩ := X2.out.cells))
    have hK2 : k2 = true → b2 = true := fun h => by rw [← SB.out]; exact (wayR_ok (h ▸ Q2.out)).1
    go_cut [136] (fun v136 wc => v136 = .bool false ∧ Aside0 (Below W.heap.size W wc) ∧ Aside0 (Gbox wc w6.heap.size (.slice A2 m2.length c2) o2 m2) ∧ Aside0 (Rd wc (.slice A3 x2.length c3) x2) ∧ Aside0 (Rd wc (.slice A5 os.length c5) os))
    case first =>
      cases k2
      · go_wp2_with (go_at_call 13; (with_reducible refine (hSame_sem R3.out R4.out true (by simp)).mono ?_); rintro e w10 ⟨rfl, hb⟩; have nX2 := Aside0.mk (X2.out.below hb); have nR3 := Aside0.mk (R3.out.below hb); have nR5 := Aside0.mk (R5.out.below hb); have nHB := Aside0.mk (below_step HB.out hb); clear X2 R3 R5 HB hb; (try clear hX20 hX21); have X2 := nX2; clear nX2; have R3 := nR3; clear nR3; have R5 := nR5; clear nR5; have HB := nHB; clear nHB; obtain ⟨hX20, hX21⟩ := X2.out.cells)
        go_meet
        case rel => exact ⟨rfl, HB, X2, R3, R5⟩
      · have hb2 := hK2 rfl
        subst hb2
        go_wp2_with (go_at_call 13; (with_reducible refine (hSame_sem R3.out R4.out true (by simp)).mono ?_); rintro e w10 ⟨rfl, hb⟩; have nX2 := Aside0.mk (X2.out.below hb); have nR3 := Aside0.mk (R3.out.below hb); have nR5 := Aside0.mk (R5.out.below hb); have nHB := Aside0.mk (below_step HB.out hb); clear X2 R3 R5 HB hb; (try clear hX20 hX21); have X2 := nX2; clear nX2; have R3 := nR3; clear nR3; have R5 := nR5; clear nR5; have HB := nHB; clear nHB; obtain ⟨hX20, hX21⟩ := X2.out.cells)
        go_meet
        case rel => exact ⟨rfl, HB, X2, R3, R5⟩
    case rest =>
      clear HB X2 R3 R4 R5 hX20 hX21
      obtain ⟨rfl, HB, X2, R3, R5⟩ := hcut
      obtain ⟨hX20, hX21⟩ := X2.out.cells
      go_upto_if 137 with (fail)
      go_cut [] (fun wc => Aside0 (Below W.heap.size W wc))
      case first =>
        cases k2
        · go_wp2
          go_meet
          case rel => exact HB
        · have hb2 := hK2 rfl
          subst hb2
          have eo := EO.out
          simp only [if_true] at eo
          subst eo
          obtain ⟨y2, hy2, hyl⟩ := wayR_back Q2.out
          have BK := Aside0.mk hy2
          have LW := Aside0.mk (wayR_word Q2.out H6.out)
          have CO := Aside0.mk (wayR_orbit Q2.out)
          have t1 : ((y2.length : Int) != (x2.length : Int)) = false := by simp [hyl]
          clear hy2 hyl
          go_wp2_with (first
            | (go_at_call 28; (with_reducible refine (impl_LitWord.sem o2 a2 X2.out.rd R3.out LW.out).mono ?_); rintro e w11 ⟨rfl, hb⟩; have nX2 := Aside0.mk (X2.out.below hb); have nR3 := Aside0.mk (R3.out.below hb); have nR5 := Aside0.mk (R5.out.below hb); have nHB := Aside0.mk (below_step HB.out hb); clear X2 R3 R5 HB hb; (try clear hX20 hX21); have X2 := nX2; clear nX2; have R3 := nR3; clear nR3; have R5 := nR5; clear nR5; have HB := nHB; clear nHB; obtain ⟨hX20, hX21⟩ := X2.out.cells)
            | (go_at_call 26; (with_reducible refine (impl_WayTo.sem o2 g2 a2 X2.out.rd BK.out).mono ?_); rintro e w12 ⟨u6, rfl, hr, hb⟩; obtain ⟨A6, c6, rfl⟩ := hr.slice; have R6 := Aside0.mk hr.rd; clear hr; have nX2 := Aside0.mk (X2.out.below hb); have nR3 := Aside0.mk (R3.out.below hb); have nR5 := Aside0.mk (R5.out.below hb); have nHB := Aside0.mk (below_step HB.out hb); clear X2 R3 R5 HB hb; (try clear hX20 hX21); have X2 := nX2; clear nX2; have R3 := nR3; clear nR3; have R5 := nR5; clear nR5; have HB := nHB; clear nHB; obtain ⟨hX20, hX21⟩ := X2.out.cells)
            | (go_at_call 21; (with_reducible refine (hHas_sem R5.out g2 true CO.out).mono ?_); rintro e w13 ⟨rfl, hb⟩; have nX2 := Aside0.mk (X2.out.below hb); have nR3 := Aside0.mk (R3.out.below hb); have nR5 := Aside0.mk (R5.out.below hb); have nHB := Aside0.mk (below_step HB.out hb); clear X2 R3 R5 HB hb; (try clear hX20 hX21); have X2 := nX2; clear nX2; have R3 := nR3; clear nR3; have R5 := nR5; clear nR5; have HB := nHB; clear nHB; obtain ⟨hX20, hX21⟩ := X2.out.cells))
          go_meet
          case rel => exact HB
      case rest => as_aux_lemma =>
        have HB := hcut
        clear X2 R3 R5 hX20 hX21 hcut SB EO Q2 hK2
        go_upto_if 204 with (first
          | (go_at_call 29; (with_reducible refine (DrawLitWord_any (H2.out.below HB.out)).mono ?_); rintro e w14 ⟨u7, m3, o3, s3, u8, wd, rfl, hr, hr2, hb⟩; obtain ⟨A7, c7, rfl⟩ := hr.slice; obtain ⟨A8, c8, rfl⟩ := hr2.slice; have R7 := Aside0.mk hr.rd; have R8 := Aside0.mk hr2.rd; clear hr hr2; obtain ⟨⟨x3, k3⟩, hq⟩ : ∃ r, (litWord m3 s3 wd) = r := ⟨_, rfl⟩; have Q3 := Aside0.mk hq; clear hq; have nHB := Aside0.mk (below_step HB.out hb); clear  HB hb; have HB := nHB; clear nHB; )
          | (go_at_call 28; (with_reducible refine (impl_LitWord.sem o3 s3 (R7.out.alloc _) (R8.out.alloc _) Q3.out).mono ?_); rintro e w15 ⟨rfl, hb⟩; have X3 := Aside0.mk (Gbox.new R7.out hb); have nR8 := Aside0.mk (R8.out.below (below_step (below_alloc (Below.refl _ _) _) hb)); have nHB := Aside0.mk (below_step HB.out (below_step (below_alloc (Below.refl _ _) _) hb)); clear R8 HB R7 hb; have R8 := nR8; clear nR8; have HB := nHB; clear nHB; obtain ⟨hX30, hX31⟩ := X3.out.cells)
          | (go_at_call 30; (with_reducible refine (spec_LitWord.sem o3 s3 X3.out.rd R8.out Q3.out).mono ?_); rintro e w16 ⟨rfl, hb⟩; have nX3 := Aside0.mk (X3.out.below hb); have nR8 := Aside0.mk (R8.out.below hb); have nHB := Aside0.mk (below_step HB.out hb); clear X3 R8 HB hb; (try clear hX30 hX31); have X3 := nX3; clear nX3; have R8 := nR8; clear nR8; have HB := nHB; clear nHB; obtain ⟨hX30, hX31⟩ := X3.out.cells))
        go_cut [] (fun wc => Aside0 (Below W.heap.size W wc))
        case first =>
          cases k3
          · go_wp2
            go_meet
            case rel => exact HB
          · go_wp2
            go_loopw [34, 208] (fun v34 v208 wr => ∃ j : Nat, j ≤ wd.length ∧ v208 = .int .i64 (j : Int) ∧ v34 = .int .i64 (litAt m3 s3 wd j) ∧ Aside0 (Gbox wr w14.heap.size (.slice A7 m3.length c7) o3 m3) ∧ Aside0 (Rd wr (.slice A8 wd.length c8) wd) ∧ Aside0 (Below W.heap.size W wr)) (fun _ v208 _ => wd.length - (intOf v208).toNat)
            case atStart => exact ⟨0, Nat.zero_le _, rfl, rfl, X3, R8, HB⟩
            case round =>
              clear X3 R8 HB hX30 hX31
              obtain ⟨j, hj, rfl, rfl, X3, R8, HB⟩ := hrel
              have hlen := R8.out.len
              by_cases hlt : j < wd.length
              · obtain ⟨ad, rfl, hc_⟩ := R8.out.cell (j : Int) (by omega) (by omega)
                clear hc_
                have hcell := R8.out.cellN j hlt
                obtain ⟨hX30, hX31⟩ := X3.out.cells
                have ST := Aside0.mk (litWord_step Q3.out j hlt)
                go_wp2_with (go_at_call 23; (with_reducible refine (impl_LitPress.sem o3 (litAt m3 s3 wd j) (rd wd (j : Int)) X3.out.rd ST.out).mono ?_); rintro e w17 ⟨rfl, hb⟩; (try clear hcell); have nX3 := Aside0.mk (X3.out.below hb); have nR8 := Aside0.mk (R8.out.below hb); have nHB := Aside0.mk (below_step HB.out hb); clear X3 R8 HB hb; (try clear hX30 hX31); have X3 := nX3; clear nX3; have R8 := nR8; clear nR8; have HB := nHB; clear nHB; obtain ⟨hX30, hX31⟩ := X3.out.cells)
                go_roundw
                case rel => exact ⟨j + 1, by omega, by go_num, rfl, X3, R8, HB⟩
                case measure => simp [intOf]; omega
              · obtain rfl : j = wd.length := by omega
                have t1 : (litAt m3 s3 wd wd.length != x3) = false := by simp [litWord_end Q3.out]
                go_wp2
                go_meet
                case rel => exact HB
        case rest => as_aux_lemma =>
          have HB := hcut
          clear X3 R8 hX30 hX31 hcut Q3
          go_upto_region 45 with (first
            | (go_at_call 31; (with_reducible refine (DrawLitMoves_any (H2.out.below HB.out)).mono ?_); rintro e w18 ⟨u9, m4, o4, s4, rfl, hr, hb⟩; obtain ⟨A9, c9, rfl⟩ := hr.slice; have R9 := Aside0.mk hr.rd; clear hr; obtain ⟨⟨x4, k4⟩, hq⟩ : ∃ r, (movesR m4 s4) = r := ⟨_, rfl⟩; have Q4 := Aside0.mk hq; clear hq; have nHB := Aside0.mk (below_step HB.out hb); clear  HB hb; have HB := nHB; clear nHB; )
            | (go_at_call 32; (with_reducible refine (impl_LitMoves.sem o4 s4 (R9.out.alloc _) Q4.out).mono ?_); rintro e w19 ⟨u10, rfl, hr, hb⟩; obtain ⟨A10, c10, rfl⟩ := hr.slice; have R10 := Aside0.mk hr.rd; clear hr; have X4 := Aside0.mk (Gbox.new R9.out hb); have nHB := Aside0.mk (below_step HB.out (below_step (below_alloc (Below.refl _ _) _) hb)); clear  HB R9 hb; have HB := nHB; clear nHB; obtain ⟨hX40, hX41⟩ := X4.out.cells)
            | (go_at_call 33; (with_reducible refine (spec_LitMoves.sem o4 s4 X4.out.rd Q4.out).mono ?_); rintro e w20 ⟨u11, rfl, hr, hb⟩; obtain ⟨A11, c11, rfl⟩ := hr.slice; have R11 := Aside0.mk hr.rd; clear hr; have nX4 := Aside0.mk (X4.out.below hb); have nR10 := Aside0.mk (R10.out.below hb); have nHB := Aside0.mk (below_step HB.out hb); clear X4 R10 HB hb; (try clear hX40 hX41); have X4 := nX4; clear nX4; have R10 := nR10; clear nR10; have HB := nHB; clear nHB; obtain ⟨hX40, hX41⟩ := X4.out.cells)
            | (go_at_call 13; (with_reducible refine (hSame_sem R10.out R11.out true (by simp)).mono ?_); rintro e w21 ⟨rfl, hb⟩; have nX4 := Aside0.mk (X4.out.below hb); have nR10 := Aside0.mk (R10.out.below hb); have nHB := Aside0.mk (below_step HB.out hb); clear X4 R10 HB hb; (try clear hX40 hX41); have X4 := nX4; clear nX4; have R10 := nR10; clear nR10; have HB := nHB; clear nHB; obtain ⟨hX40, hX41⟩ := X4.out.cells))
          go_wp2
          go_loopw [254] (fun v254 wr => ∃ j : Nat, j ≤ x4.length ∧ v254 = .int .i64 (j : Int) ∧ Aside0 (Gbox wr w18.heap.size (.slice A9 m4.length c9) o4 m4) ∧ Aside0 (Rd wr (.slice A10 x4.length c10) x4) ∧ Aside0 (Below W.heap.size W wr)) (fun v254 _ => x4.length - (intOf v254).toNat)
          case atStart => exact ⟨0, Nat.zero_le _, rfl, X4, R10, HB⟩
          case round =>
            clear X4 R10 HB hX40 hX41
            obtain ⟨j, hj, rfl, X4, R10, HB⟩ := hrel
            have hlen := R10.out.len
            by_cases hlt : j < x4.length
            · obtain ⟨ad, rfl, hc_⟩ := R10.out.cell (j : Int) (by omega) (by omega)
              clear hc_
              have hcell := R10.out.cellN j hlt
              obtain ⟨hX40, hX41⟩ := X4.out.cells
              obtain ⟨y, hy, hne⟩ := movesR_press Q4.out j hlt
              have MP := Aside0.mk hy
              have t1 : (y == s4) = false := by simpa using hne
              clear hy hne
              go_wp2_with (go_at_call 23; (with_reducible refine (impl_LitPress.sem o4 s4 (rd x4 (j : Int)) X4.out.rd MP.out).mono ?_); rintro e w22 ⟨rfl, hb⟩; (try clear hcell); have nX4 := Aside0.mk (X4.out.below hb); have nR10 := Aside0.mk (R10.out.below hb); have nHB := Aside0.mk (below_step HB.out hb); clear X4 R10 HB hb; (try clear hX40 hX41); have X4 := nX4; clear nX4; have R10 := nR10; clear nR10; have HB := nHB; clear nHB; obtain ⟨hX40, hX41⟩ := X4.out.cells)
              go_roundw
              case rel => exact ⟨j + 1, by omega, by go_num, X4, R10, HB⟩
              case measure => simp [intOf]; omega
            · go_wp2
              go_ret
              exact ⟨rfl, HB.out⟩
theorem FnLitPresses_walk (a0 : Option Addr) (len0 cap0 : Nat) (z0 : List Int) (a1 : Option Addr) (len1 cap1 : Nat) (z1 : List Int) (w : World) (h0 : YtjkijnggjjoheaaGr.IsRow .u8 w a0 len0 cap0 z0) (y0 : len0 * 1 ≤ 140737488351232) (h1 : YtjkijnggjjoheaaGr.IsRow .u8 w a1 len1 cap1 z1) (y1 : len1 * 1 ≤ 140737488351232) :
    Calls Try.prog 4 #[.slice a0 len0 cap0, .slice a1 len1 cap1] w fun e w' => e = .returned (.bool true) ∧ Below w.heap.size w w' := by
  obtain ⟨l0, g0⟩ := Rb.row h0
  obtain ⟨l1, g1⟩ := Rb.row h1
  exact law_main g0 g1
end Go.Proofs.Ytjkijnggjjoheaa.Draw
