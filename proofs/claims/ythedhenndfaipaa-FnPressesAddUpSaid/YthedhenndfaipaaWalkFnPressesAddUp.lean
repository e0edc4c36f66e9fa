/- The walk of FnPressesAddUp: the call returns true and leaves memory as it was. Conditions: what its row lays. -/
import Derived.Test.YthedhenndfaipaaPFnPressesAddUpx
import Derived.Test.YthedhenndfaipaaQFnPressesAddUp0
import Derived.Test.YthedhenndfaipaaM1
import Derived.Test.YthedhenndfaipaaM17
import Derived.WalkKit
import Derived.RowKit3
import Derived.Deep.QuietTactic
import Derived.BigQuiet
import Derived.Deep.DeepCutAuto
import Derived.Deep.CutBlock
import Derived.Deep.LoopGhost
import Derived.Outline
import Derived.Deep.DeepFit
import Derived.Test.YthedhenndfaipaaDFnPressesAddUp0
import Derived.Test.YthedhenndfaipaaDFnPressesAddUp1
import Derived.Test.YthedhenndfaipaaDFnPressesAddUp2
namespace Go.Proofs.Ythedhenndfaipaa.Draw
open Go.RowKit Go.Proofs.Ythedhenndfaipaa.PFnPressesAddUp Go.Proofs.YthedhenndfaipaaW.PrintWords Go.Proofs.YthedhenndfaipaaW.PrintLast Go.Proofs.YthedhenndfaipaaW.PrintMore Go.Proofs.YthedhenndfaipaaM Go.Proofs.Ythedhenndfaipaa.Pure
attribute [local go_sem] max2_int min2_int max_two min_two max_three min_three max_four min_four
set_option linter.unusedVariables false
set_option linter.unusedSimpArgs false
-- NOPURE spec_grPath spec_grCircle spec_grAdd
set_option maxRecDepth 100000 in
set_option maxHeartbeats 4000000 in
theorem law_main {W : World} {v v2 : Value} {l l2 : List Int} (h : Rb W v l) (h2 : Rb W v2 l2) : Calls Try.prog 3 #[v, v2] W fun e W' => e = .returned (.bool true) ∧ Below W.heap.size W W' := by
  have hu := Try.underlying26
  have HB := Aside0.mk (Below.refl W.heap.size W)
  have H1 := Aside0.mk h
  have H2 := Aside0.mk h2
  clear h h2
  go_enter Try.func3, Try.ntmps3
  go_upto_if 106 with (first
    | (go_at_call 4; refine (big_any H1.out H2.out).mono ?_; rintro e w1 ⟨nd, b, rfl, rfl⟩; have nHB := Aside0.mk (pw_below_drewN HB.out nd); clear HB; have HB := nHB; clear nHB)
    | (go_at_call 5; refine (DrawPressAll_any (H1.out.below HB.out)).mono ?_; rintro e w2 ⟨u1, m1, o1, s1, p1, rfl, hr, hb⟩; obtain ⟨A1, c1, rfl⟩ := hr.slice; have R1 := Aside0.mk hr; clear hr; have nHB := Aside0.mk (below_step HB.out hb); clear  HB hb; have HB := nHB; clear nHB; )
    | (go_at_call 6; obtain ⟨⟨x1, k1⟩, hq⟩ : ∃ r, pressAll m1 o1 s1 p1 = r := ⟨_, rfl⟩; have Q1 := Aside0.mk hq; clear hq; refine (impl_PressAll.sem o1 s1 p1 (R1.out.alloc _) Q1.out).mono ?_; rintro e w3 ⟨rfl, hb⟩; have X1 := Aside0.mk (Gbox.new R1.out hb); have nHB := Aside0.mk (below_step HB.out (below_step (below_alloc (Below.refl _ _) _) hb)); clear  HB R1 hb; have HB := nHB; clear nHB; obtain ⟨hX10, hX11⟩ := X1.out.cells)
    | (go_at_call 7; refine (spec_PressAll.sem o1 s1 p1 X1.out.rd Q1.out).mono ?_; rintro e w4 ⟨rfl, hb⟩; have nX1 := Aside0.mk (X1.out.below hb); have nHB := Aside0.mk (below_step HB.out hb); clear X1 HB hb; (try clear hX10 hX11); have X1 := nX1; clear nX1; have HB := nHB; clear nHB; obtain ⟨hX10, hX11⟩ := X1.out.cells)
    | (go_at_call 8; refine (DrawPressWord_any (H2.out.below HB.out)).mono ?_; rintro e w5 ⟨u2, m2, o2, s2, u3, m3, rfl, hr, hr2, hb⟩; obtain ⟨A2, c2, rfl⟩ := hr.slice; obtain ⟨A3, c3, rfl⟩ := hr2.slice; have R2 := Aside0.mk hr; have R3 := Aside0.mk hr2; clear hr hr2; have nX1 := Aside0.mk (X1.out.below hb); have nHB := Aside0.mk (below_step HB.out hb); clear X1 HB hb; (try clear hX10 hX11); have X1 := nX1; clear nX1; have HB := nHB; clear nHB; obtain ⟨hX10, hX11⟩ := X1.out.cells)
    | (go_at_call 9; obtain ⟨⟨x2, k2⟩, hq⟩ : ∃ r, pressWord m2 o2 s2 m3 = r := ⟨_, rfl⟩; have Q2 := Aside0.mk hq; clear hq; refine (impl_PressWord.sem o2 s2 (R2.out.alloc _) (R3.out.alloc _) Q2.out).mono ?_; rintro e w6 ⟨rfl, hb⟩; have X2 := Aside0.mk (Gbox.new R2.out hb); have nX1 := Aside0.mk (X1.out.below (below_step (below_alloc (Below.refl _ _) _) hb)); have nR3 := Aside0.mk (R3.out.below (below_step (below_alloc (Below.refl _ _) _) hb)); have nHB := Aside0.mk (below_step HB.out (below_step (below_alloc (Below.refl _ _) _) hb)); clear X1 R3 HB R2 hb; (try clear hX10 hX11); have X1 := nX1; clear nX1; have R3 := nR3; clear nR3; have HB := nHB; clear nHB; obtain ⟨hX20, hX21⟩ := X2.out.cells; obtain ⟨hX10, hX11⟩ := X1.out.cells)
    | (go_at_call 10; refine (spec_PressWord.sem o2 s2 X2.out.rd R3.out Q2.out).mono ?_; rintro e w7 ⟨rfl, hb⟩; have nX1 := Aside0.mk (X1.out.below hb); have nX2 := Aside0.mk (X2.out.below hb); have nR3 := Aside0.mk (R3.out.below hb); have nHB := Aside0.mk (below_step HB.out hb); clear X1 X2 R3 HB hb; (try clear hX10 hX11); (try clear hX20 hX21); have X1 := nX1; clear nX1; have X2 := nX2; clear nX2; have R3 := nR3; clear nR3; have HB := nHB; clear nHB; obtain ⟨hX10, hX11⟩ := X1.out.cells; obtain ⟨hX20, hX21⟩ := X2.out.cells))
  · go_ret
    exact ⟨rfl, HB.out⟩
  go_cut [] (fun wc => Aside0 (Gbox wc w2.heap.size (.slice A1 m1.length c1) o1 m1) ∧ Aside0 (Below W.heap.size W wc))
  case first =>
    cases k2
    · go_wp2
      go_meet
      case rel => exact ⟨X1, HB⟩
    · go_wp2
      go_loopw [19, 20, 110] (fun v19 v20 v110 wr => ∃ i : Nat, i ≤ m3.length ∧ v110 = .int .i64 i ∧ v19 = .int .i64 (oddOf (m3.take i)) ∧ v20 = .int .i64 (pressGo m2 o2 s2 (m3.take i)) ∧ Aside0 (Gbox wr w2.heap.size (.slice A1 m1.length c1) o1 m1) ∧ Aside0 (Gbox wr w5.heap.size (.slice A2 m2.length c2) o2 m2) ∧ Aside0 (Rd wr (.slice A3 m3.length c3) m3) ∧ Aside0 (Below W.heap.size W wr)) (fun _ _ v110 _ => m3.length - (intOf v110).toNat)
      case atStart => exact ⟨0, Nat.zero_le _, rfl, rfl, rfl, X1, X2, R3, HB⟩
      case round =>
        clear X1 X2 R3 HB hX10 hX11 hX20 hX21
        obtain ⟨i, hi, rfl, rfl, rfl, X1, X2, R3, HB⟩ := hrel
        obtain ⟨hX20, hX21⟩ := X2.out.cells
        have hm := R3.out.len
        by_cases hlt : i < m3.length
        · have hst := pressWord_step Q2.out i hlt
          obtain ⟨hr0, hr1, hn, hp, ho, hol⟩ := hst
          obtain ⟨ad, rfl, hcell⟩ := R3.out.cell (i : Int) (by omega) (by omega)
          replace hcell : wr.cell? (ad.add i) = some (.int .i64 (rd m3 (i : Int))) := by simpa using hcell
          have P := Aside0.mk hp
          have O := Aside0.mk (show Go.bits .xor .i64 (oddOf (m3.take i) : Int) (wrap64 (2 ^ (rd m3 (i : Int)).toNat)) = (oddOf (m3.take (i + 1)) : Int) by rw [ho]; exact odd_xor hn hol (by omega))
          clear hp ho hol
          go_wp2_with (go_at_call 11; (with_reducible refine (impl_PressButton.sem o2 _ _ X2.out.rd P.out).mono ?_); rintro e w8 ⟨rfl, hb⟩; clear hcell; have nX1 := Aside0.mk (X1.out.below hb); have nX2 := Aside0.mk (X2.out.below hb); have nR3 := Aside0.mk (R3.out.below hb); have nHB := Aside0.mk (below_step HB.out hb); clear X1 X2 R3 HB hb; (try clear hX10 hX11); (try clear hX20 hX21); have X1 := nX1; clear nX1; have X2 := nX2; clear nX2; have R3 := nR3; clear nR3; have HB := nHB; clear nHB; obtain ⟨hX10, hX11⟩ := X1.out.cells; obtain ⟨hX20, hX21⟩ := X2.out.cells)
          go_roundw
          case rel => exact ⟨i + 1, by omega, by go_num, by rw [← O.out], rfl, X1, X2, R3, HB⟩
          case measure => simp [intOf]; omega
        · have hil : i = m3.length := by omega
          subst hil
          rw [List.take_length]
          have PA := Aside0.mk (pressWord_all Q2.out)
          have PG := (pressWord_ok Q2.out).2.2.2
          subst PG
          go_wp2_with (go_at_call 6; (with_reducible refine (impl_PressAll.sem o2 _ _ X2.out.rd PA.out).mono ?_); rintro e w9 ⟨rfl, hb⟩; have nX1 := Aside0.mk (X1.out.below hb); have nX2 := Aside0.mk (X2.out.below hb); have nR3 := Aside0.mk (R3.out.below hb); have nHB := Aside0.mk (below_step HB.out hb); clear X1 X2 R3 HB hb; (try clear hX10 hX11); (try clear hX20 hX21); have X1 := nX1; clear nX1; have X2 := nX2; clear nX2; have R3 := nR3; clear nR3; have HB := nHB; clear nHB; obtain ⟨hX10, hX11⟩ := X1.out.cells; obtain ⟨hX20, hX21⟩ := X2.out.cells)
          go_meet
          case rel => exact ⟨X1, HB⟩
  case rest =>
    clear X1 HB hX10 hX11
    obtain ⟨X1, HB⟩ := hcut
    obtain ⟨hX10, hX11⟩ := X1.out.cells
    go_upto_if 203 with (first
      | (go_at_call 12; (with_reducible refine (DrawPressButton_any (H2.out.below HB.out)).mono ?_); rintro e w10 ⟨u5, m5, o5, s5, i5, rfl, hr, hb⟩; obtain ⟨A5, c5, rfl⟩ := hr.slice; have R5 := Aside0.mk hr; clear hr; have nX1 := Aside0.mk (X1.out.below hb); have nHB := Aside0.mk (below_step HB.out hb); clear X1 HB hb; (try clear hX10 hX11); have X1 := nX1; clear nX1; have HB := nHB; clear nHB; obtain ⟨hX10, hX11⟩ := X1.out.cells)
      | (go_at_call 11; obtain ⟨⟨x5, k5⟩, hq⟩ : ∃ r, pressWord m5 o5 s5 [i5] = r := ⟨_, rfl⟩; have Q5 := Aside0.mk hq; clear hq; (with_reducible refine (impl_PressButton.sem o5 s5 i5 (R5.out.alloc _) Q5.out).mono ?_); rintro e w11 ⟨rfl, hb⟩; have X5 := Aside0.mk (Gbox.new R5.out hb); have nX1 := Aside0.mk (X1.out.below (below_step (below_alloc (Below.refl _ _) _) hb)); have nHB := Aside0.mk (below_step HB.out (below_step (below_alloc (Below.refl _ _) _) hb)); clear X1 HB R5 hb; (try clear hX10 hX11); have X1 := nX1; clear nX1; have HB := nHB; clear nHB; obtain ⟨hX50, hX51⟩ := X5.out.cells; obtain ⟨hX10, hX11⟩ := X1.out.cells)
      | (go_at_call 13; (with_reducible refine (spec_PressButton.sem o5 s5 i5 X5.out.rd Q5.out).mono ?_); rintro e w12 ⟨rfl, hb⟩; have nX1 := Aside0.mk (X1.out.below hb); have nX5 := Aside0.mk (X5.out.below hb); have nHB := Aside0.mk (below_step HB.out hb); clear X1 X5 HB hb; (try clear hX10 hX11); (try clear hX50 hX51); have X1 := nX1; clear nX1; have X5 := nX5; clear nX5; have HB := nHB; clear nHB; obtain ⟨hX10, hX11⟩ := X1.out.cells; obtain ⟨hX50, hX51⟩ := X5.out.cells)
      | (go_at_call 14; (with_reducible refine (DrawTogglesOf_any (H2.out.below HB.out)).mono ?_); rintro e w13 ⟨u6, m6, o6, i6, rfl, hr, hb⟩; obtain ⟨A6, c6, rfl⟩ := hr.slice; have R6 := Aside0.mk hr; clear hr; have nX1 := Aside0.mk (X1.out.below hb); have nHB := Aside0.mk (below_step HB.out hb); clear X1 HB hb; (try clear hX10 hX11); have X1 := nX1; clear nX1; have HB := nHB; clear nHB; obtain ⟨hX10, hX11⟩ := X1.out.cells)
      | (go_at_call 15; obtain ⟨⟨x6, k6⟩, hq⟩ : ∃ r, togglesOf m6 o6 i6 = r := ⟨_, rfl⟩; have Q6 := Aside0.mk hq; clear hq; (with_reducible refine (impl_TogglesOf.sem o6 i6 (R6.out.alloc _) Q6.out).mono ?_); rintro e w14 ⟨rfl, hb⟩; have X6 := Aside0.mk (Gbox.new R6.out hb); have nX1 := Aside0.mk (X1.out.below (below_step (below_alloc (Below.refl _ _) _) hb)); have nHB := Aside0.mk (below_step HB.out (below_step (below_alloc (Below.refl _ _) _) hb)); clear X1 HB R6 hb; (try clear hX10 hX11); have X1 := nX1; clear nX1; have HB := nHB; clear nHB; obtain ⟨hX60, hX61⟩ := X6.out.cells; obtain ⟨hX10, hX11⟩ := X1.out.cells)
      | (go_at_call 16; (with_reducible refine (spec_TogglesOf.sem o6 i6 X6.out.rd Q6.out).mono ?_); rintro e w15 ⟨rfl, hb⟩; have nX1 := Aside0.mk (X1.out.below hb); have nX6 := Aside0.mk (X6.out.below hb); have nHB := Aside0.mk (below_step HB.out hb); clear X1 X6 HB hb; (try clear hX10 hX11); (try clear hX60 hX61); have X1 := nX1; clear nX1; have X6 := nX6; clear nX6; have HB := nHB; clear nHB; obtain ⟨hX10, hX11⟩ := X1.out.cells; obtain ⟨hX60, hX61⟩ := X6.out.cells))
    go_cut [] (fun wc => Aside0 (Gbox wc w2.heap.size (.slice A1 m1.length c1) o1 m1) ∧ Aside0 (Below W.heap.size W wc))
    case first =>
      cases k6
      · go_wp2
        go_meet
        case rel => exact ⟨X1, HB⟩
      · obtain ⟨hG6, h60, h61, h6⟩ := togglesOf_ok Q6.out
        have hd := togg_due hG6 h60 h61
        obtain ⟨ad, rfl, hcell⟩ := X6.out.rd.cell i6 h60 h61
        subst h6
        cases o6
        · have hne : (togg m6 false i6.toNat != rd m6 i6) = false := by rw [hd.1]; simp
          clear hd
          go_wp2
          go_meet
          case rel => exact ⟨X1, HB⟩
        · have hne : (togg m6 true i6.toNat != Go.bits .or .i64 (rd m6 i6) (wrap64 (2 ^ i6.toNat))) = false := by rw [hd.2]; simp
          clear hd
          have hmin : min i6.toNat 64 = i6.toNat := by have := hG6.top; omega
          go_wp2
          go_meet
          case rel => exact ⟨X1, HB⟩
    case rest =>
      clear X1 HB hX10 hX11
      obtain ⟨X1, HB⟩ := hcut
      obtain ⟨hX10, hX11⟩ := X1.out.cells
      cases k1
      · go_wp2
        go_ret
        exact ⟨rfl, HB.out⟩
      · obtain ⟨hb1, he1, hx1⟩ := pressAll_back Q1.out
        have B1 := Aside0.mk hb1
        have E1 := Aside0.mk he1
        clear hb1 he1
        go_wp2_with (first
          | (go_at_call 17; (with_reducible refine (impl_EffectOf.sem o1 p1 X1.out.rd E1.out).mono ?_); rintro e w16 ⟨rfl, hb⟩; have nX1 := Aside0.mk (X1.out.below hb); have nHB := Aside0.mk (below_step HB.out hb); clear X1 HB hb; (try clear hX10 hX11); have X1 := nX1; clear nX1; have HB := nHB; clear nHB; obtain ⟨hX10, hX11⟩ := X1.out.cells)
          | (go_at_call 18; (with_reducible refine (spec_EffectOf.sem o1 p1 X1.out.rd E1.out).mono ?_); rintro e w17 ⟨rfl, hb⟩; have nX1 := Aside0.mk (X1.out.below hb); have nHB := Aside0.mk (below_step HB.out hb); clear X1 HB hb; (try clear hX10 hX11); have X1 := nX1; clear nX1; have HB := nHB; clear nHB; obtain ⟨hX10, hX11⟩ := X1.out.cells)
          | (go_at_call 6; (with_reducible refine (impl_PressAll.sem o1 x1 p1 X1.out.rd B1.out).mono ?_); rintro e w18 ⟨rfl, hb⟩; have nX1 := Aside0.mk (X1.out.below hb); have nHB := Aside0.mk (below_step HB.out hb); clear X1 HB hb; (try clear hX10 hX11); have X1 := nX1; clear nX1; have HB := nHB; clear nHB; obtain ⟨hX10, hX11⟩ := X1.out.cells))
        go_ret
        exact ⟨rfl, HB.out⟩
theorem FnPressesAddUp_walk (a0 : Option Addr) (len0 cap0 : Nat) (z0 : List Int) (a1 : Option Addr) (len1 cap1 : Nat) (z1 : List Int) (w : World) (h0 : YthedhenndfaipaaGr.IsRow .u8 w a0 len0 cap0 z0) (y0 : len0 * 1 ≤ 140737488351232) (h1 : YthedhenndfaipaaGr.IsRow .u8 w a1 len1 cap1 z1) (y1 : len1 * 1 ≤ 140737488351232) :
    Calls Try.prog 3 #[.slice a0 len0 cap0, .slice a1 len1 cap1] w fun e w' => e = .returned (.bool true) ∧ Below w.heap.size w w' := by
  obtain ⟨l0, g0⟩ := Rb.row h0
  obtain ⟨l1, g1⟩ := Rb.row h1
  exact law_main g0 g1
end Go.Proofs.Ythedhenndfaipaa.Draw
