/- The walk of FnSplitsOfGraphs: the call returns true and leaves memory as it was. Conditions: what its row lays. -/
import Derived.Test.YtlohlngmagpepaaGreatPFnSplitsOfGraphsx
import Derived.Test.YtlohlngmagpepaaGreatQFnSplitsOfGraphs0
import Derived.Test.YtlohlngmagpepaaGreatQFnSplitsOfGraphs1
import Derived.Test.YtlohlngmagpepaaGreatM1
import Derived.Test.YtlohlngmagpepaaGreatM40
import Derived.Test.YtlohlngmagpepaaGreatM41
import Derived.Test.YtlohlngmagpepaaGreatM9
import Derived.WalkKit
import Derived.RowKit3
import Derived.Deep.QuietTactic
import Derived.BigQuiet
import Derived.Deep.DeepCutAuto
import Derived.Deep.CutBlock
import Derived.Deep.LoopGhost
import Derived.Outline
import Derived.Deep.DeepFit
import Derived.Test.YtlohlngmagpepaaGreatDFnSplitsOfGraphs0
import Derived.Test.YtlohlngmagpepaaGreatDFnSplitsOfGraphs1
import Derived.Test.YtlohlngmagpepaaGreatDFnSplitsOfGraphs2
import Derived.Test.YtlohlngmagpepaaGreatDFnSplitsOfGraphs3
import Derived.Test.YtlohlngmagpepaaGreatDFnSplitsOfGraphs4
import Derived.Test.YtlohlngmagpepaaGreatDFnSplitsOfGraphs5
import Derived.Test.YtlohlngmagpepaaGreatDFnSplitsOfGraphs6
namespace Go.Proofs.YtlohlngmagpepaaGreat.Draw
open Go.RowKit Go.Proofs.YtlohlngmagpepaaGreat.PFnSplitsOfGraphs Go.Proofs.YtlohlngmagpepaaGreatW.PrintWords Go.Proofs.YtlohlngmagpepaaGreatW.PrintLast Go.Proofs.YtlohlngmagpepaaGreatW.PrintMore Go.Proofs.YtlohlngmagpepaaGreatM Go.Proofs.YtlohlngmagpepaaGreat.Pure
attribute [local go_sem] max2_int min2_int max_two min_two max_three min_three max_four min_four
set_option linter.unusedVariables false
set_option linter.unusedSimpArgs false
theorem split_ok (l : List Int) (r : Nat) : ∃ x : Int, splitR l r = (x, good l) := by
  unfold splitR
  cases good l
  · exact ⟨_, rfl⟩
  · exact ⟨_, rfl⟩
theorem cnt_ok (l : List Int) (r : Nat) : ∃ x : Int, cntR l r = (x, good l) := by
  unfold cntR
  cases good l
  · exact ⟨_, rfl⟩
  · exact ⟨_, rfl⟩
theorem evens_ok {l r : List Int} (h : evensR l = (r, true)) : good l = true ∧ 2 ^ (svP l 0).quiet.length ≤ 300 ∧ r = ints (solsP l) := by
  unfold evensR at h
  split at h
  · next h2 =>
    injection h with e _
    exact ⟨h2.1, h2.2, e.symm⟩
  · injection h with _ e
    cases e
theorem deg_ok {l r : List Int} {s : Int} (h : degR l s = (r, true)) : ∃ d : List Nat, r = ints d ∧ d.sum % 2 = 0 ∧ d.sum ≤ 256 := by
  unfold degR at h
  split at h
  · next hb =>
    obtain ⟨hG, hs⟩ := boardOk_of hb
    obtain ⟨h0, h1, h2⟩ := inSet_lt hs
    have hc := pow_cast l.length
    injection h with e _
    exact ⟨_, e.symm, deg_even hG (by omega), deg_small hG (by omega)⟩
  · injection h with _ e
    cases e
theorem pow_facts {n : Nat} (hn : n ≤ 16) : wrap64 (2 ^ n) = ((2 ^ n : Nat) : Int) ∧ wrap64 (((2 ^ n : Nat) : Int) - 1) = ((2 ^ n - 1 : Nat) : Int) ∧ 1 ≤ 2 ^ n ∧ 2 ^ n ≤ 65536 := by
  have h16 : (2 : Nat) ^ n ≤ 2 ^ 16 := Nat.pow_le_pow_right (by decide) hn
  have h1 := Nat.two_pow_pos n
  refine ⟨?_, ?_, h1, h16⟩
  · rw [← pow_cast]
    generalize 2 ^ n = z at h16 ⊢
    exact wrap_id (by omega) (by omega)
  · generalize 2 ^ n = z at h16 h1 ⊢
    rw [wrap_id (by omega) (by omega)]
    omega
theorem and_pred {q : Nat} (hq : q ≤ 16) : Go.bits .and .i64 ((2 ^ q : Nat) : Int) (((2 ^ q : Nat) : Int) - 1) = 0 := by
  obtain ⟨_, _, h1, h2⟩ := pow_facts hq
  rw [show (((2 ^ q : Nat) : Int) - 1) = ((2 ^ q - 1 : Nat) : Int) by omega, and_nat _ _ (by omega) (by omega), pow_and_pred]
  rfl
set_option maxRecDepth 100000 in
set_option maxHeartbeats 4000000 in
theorem law_main {W : World} {v v2 : Value} {l l2 : List Int} (h : Rb W v l) (h2 : Rb W v2 l2) : Calls Tryz.prog 3 #[v, v2] W fun e W' => e = .returned (.bool true) ∧ Below W.heap.size W W' := by
  have hu := Tryz.underlying26
  have HB := Aside0.mk (Below.refl W.heap.size W)
  have H1 := Aside0.mk h
  have H2 := Aside0.mk h2
  clear h h2
  go_enter Tryz.func3, Tryz.ntmps3
  go_upto_region 4 with (first
    | (go_at_call 6; refine (big_any H1.out H2.out).mono ?_; rintro e w1 ⟨nd, b, rfl, rfl⟩; have nHB := Aside0.mk (pw_below_drewN HB.out nd); clear HB; have HB := nHB; clear nHB)
    | (go_at_call 7; (with_reducible refine (DrawEvenSplit_any (H1.out.below HB.out)).mono ?_); rintro e w2 ⟨u1, m, o, rfl, hr, hb⟩; obtain ⟨A1, c1, rfl⟩ := hr.slice; have R := Aside0.mk hr.rd; clear hr; have nHB := Aside0.mk (below_step HB.out hb); clear  HB hb; have HB := nHB; clear nHB; ))
  · go_ret
    exact ⟨rfl, HB.out⟩
  obtain ⟨x0, h0⟩ := split_ok m 0
  obtain ⟨x1, h1⟩ := split_ok m 1
  obtain ⟨y0, h2⟩ := cnt_ok m 0
  obtain ⟨y1, h3⟩ := cnt_ok m 1
  obtain ⟨k, hk⟩ : ∃ k, good m = k := ⟨_, rfl⟩
  rw [hk] at h0 h1 h2 h3
  have Q0 := Aside0.mk h0
  have Q1 := Aside0.mk h1
  have Q2 := Aside0.mk h2
  have Q3 := Aside0.mk h3
  have HG := Aside0.mk hk
  clear h0 h1 h2 h3 hk H1
  go_upto_if 164 with (first
    | (go_at_call 8; (with_reducible refine (implEvenSplit_any o (R.out.alloc _) Q0.out).mono ?_); rintro e w3 ⟨rfl, hb⟩; have X := Aside0.mk (Gbox.new R.out hb); have nHB := Aside0.mk (below_step HB.out (below_step (below_alloc (Below.refl _ _) _) hb)); clear  HB R hb; have HB := nHB; clear nHB; obtain ⟨hX0, hX1⟩ := X.out.cells)
    | (go_at_call 9; (with_reducible refine (specEvenSplit_any o X.out.rd Q0.out).mono ?_); rintro e w4 ⟨rfl, hb⟩; have nX := Aside0.mk (X.out.below hb); have nHB := Aside0.mk (below_step HB.out hb); clear X HB hb; (try clear hX0 hX1); have X := nX; clear nX; have HB := nHB; clear nHB; obtain ⟨hX0, hX1⟩ := X.out.cells)
    | (go_at_call 10; (with_reducible refine (implEvenOddSplit_any o X.out.rd Q1.out).mono ?_); rintro e w5 ⟨rfl, hb⟩; have nX := Aside0.mk (X.out.below hb); have nHB := Aside0.mk (below_step HB.out hb); clear X HB hb; (try clear hX0 hX1); have X := nX; clear nX; have HB := nHB; clear nHB; obtain ⟨hX0, hX1⟩ := X.out.cells)
    | (go_at_call 11; (with_reducible refine (specEvenOddSplit_any o X.out.rd Q1.out).mono ?_); rintro e w6 ⟨rfl, hb⟩; have nX := Aside0.mk (X.out.below hb); have nHB := Aside0.mk (below_step HB.out hb); clear X HB hb; (try clear hX0 hX1); have X := nX; clear nX; have HB := nHB; clear nHB; obtain ⟨hX0, hX1⟩ := X.out.cells)
    | (go_at_call 12; (with_reducible refine (implCountEvenSplits_any o X.out.rd Q2.out).mono ?_); rintro e w7 ⟨rfl, hb⟩; have nX := Aside0.mk (X.out.below hb); have nHB := Aside0.mk (below_step HB.out hb); clear X HB hb; (try clear hX0 hX1); have X := nX; clear nX; have HB := nHB; clear nHB; obtain ⟨hX0, hX1⟩ := X.out.cells)
    | (go_at_call 13; (with_reducible refine (specCountEvenSplits_any o X.out.rd Q2.out).mono ?_); rintro e w8 ⟨rfl, hb⟩; have nX := Aside0.mk (X.out.below hb); have nHB := Aside0.mk (below_step HB.out hb); clear X HB hb; (try clear hX0 hX1); have X := nX; clear nX; have HB := nHB; clear nHB; obtain ⟨hX0, hX1⟩ := X.out.cells)
    | (go_at_call 14; (with_reducible refine (implCountEvenOdd_any o X.out.rd Q3.out).mono ?_); rintro e w9 ⟨rfl, hb⟩; have nX := Aside0.mk (X.out.below hb); have nHB := Aside0.mk (below_step HB.out hb); clear X HB hb; (try clear hX0 hX1); have X := nX; clear nX; have HB := nHB; clear nHB; obtain ⟨hX0, hX1⟩ := X.out.cells)
    | (go_at_call 15; (with_reducible refine (specCountEvenOdd_any o X.out.rd Q3.out).mono ?_); rintro e w10 ⟨rfl, hb⟩; have nX := Aside0.mk (X.out.below hb); have nHB := Aside0.mk (below_step HB.out hb); clear X HB hb; (try clear hX0 hX1); have X := nX; clear nX; have HB := nHB; clear nHB; obtain ⟨hX0, hX1⟩ := X.out.cells)
    | (go_at_call 16; (with_reducible refine (IsGraph_any o X.out.rd HG.out).mono ?_); rintro e w11 ⟨rfl, hb⟩; have nX := Aside0.mk (X.out.below hb); have nHB := Aside0.mk (below_step HB.out hb); clear X HB hb; (try clear hX0 hX1); have X := nX; clear nX; have HB := nHB; clear nHB; obtain ⟨hX0, hX1⟩ := X.out.cells))
  go_cut [4] (fun v4 wc => v4 = .bool false ∧ Aside0 (Below W.heap.size W wc))
  case first => as_aux_lemma =>
    cases k
    · go_wp2
      go_meet
      case rel => exact ⟨rfl, HB⟩
    · have hG := (good_iff m).1 HG.out
      have hm16 := hG.top
      have e0 := Q0.out
      rw [split_good 0 HG.out] at e0
      injection e0 with e0 _
      have e1 := Q1.out
      rw [split_good 1 HG.out] at e1
      injection e1 with e1 _
      have e2 := Q2.out
      rw [cnt_good 0 HG.out] at e2
      injection e2 with e2 _
      have e3 := Q3.out
      rw [cnt_good 1 HG.out] at e3
      injection e3 with e3 _
      subst e0 e1 e2 e3
      have hq0 := (svP_quiet hG 0).2.1
      have hq1 := (svP_quiet hG 1).2.1
      have xc0 := and_pred (q := (svP m 0).quiet.length) (by omega)
      have xc1 := and_pred (q := (svP m 1).quiet.length) (by omega)
      obtain ⟨_, _, za, zb⟩ := pow_facts (n := (svP m 0).quiet.length) (by omega)
      obtain ⟨_, _, zc, zd⟩ := pow_facts (n := (svP m 1).quiet.length) (by omega)
      obtain ⟨hwz, hwy, _, _⟩ := pow_facts hm16
      have hp0 := (spP_least hG 0).1
      have hp1 := (spP_least hG 1).1
      have I1 := isPar_good hG hp0 0
      have I2 := isPar_good hG (others_lt hp0) 0
      have I3 := isPar_good hG hp1 0
      have I4 := isPar_good hG (others_lt hp1) 1
      rw [(sp_even hG (show 0 < 2 by decide)).1] at I1
      rw [(sp_even hG (show 0 < 2 by decide)).2] at I2
      rw [(sp_even hG (show 1 < 2 by decide)).1] at I3
      rw [(sp_even hG (show 1 < 2 by decide)).2] at I4
      have hz1 := Nat.two_pow_pos m.length
      have xn0 := andnot_others hG hp0
      have xn1 := andnot_others hG hp1
      rw [show ((2 ^ m.length - 1 : Nat) : Int) = ((2 ^ m.length : Nat) : Int) - 1 by omega] at xn0 xn1
      have J1 := Aside0.mk I1
      have J2 := Aside0.mk I2
      have J3 := Aside0.mk I3
      have J4 := Aside0.mk I4
      clear I1 I2 I3 I4 hp0 hp1 hq0 hq1 hG Q0 Q1 Q2 Q3
      generalize othersP m (spP m 0) = o0 at *
      generalize othersP m (spP m 1) = o1 at *
      generalize spP m 0 = p0 at *
      generalize spP m 1 = p1 at *
      generalize (2 : Nat) ^ m.length - 1 = yy at *
      generalize (2 : Nat) ^ m.length = zz at *
      generalize (2 : Nat) ^ (svP m 0).quiet.length = z0 at *
      generalize (2 : Nat) ^ (svP m 1).quiet.length = z1 at *
      go_wp2_with (first
        | (go_at_call 17; (first | (with_reducible refine (impl_IsEvenSet.sem o (p0 : Int) X.out.rd J1.out).mono ?_) | (with_reducible refine (impl_IsEvenSet.sem o (o0 : Int) X.out.rd J2.out).mono ?_) | (with_reducible refine (impl_IsEvenSet.sem o (p1 : Int) X.out.rd J3.out).mono ?_)); rintro e w12 ⟨rfl, hb⟩; have nX := Aside0.mk (X.out.below hb); have nHB := Aside0.mk (below_step HB.out hb); clear X HB hb; (try clear hX0 hX1); have X := nX; clear nX; have HB := nHB; clear nHB; obtain ⟨hX0, hX1⟩ := X.out.cells)
        | (go_at_call 18; (with_reducible refine (impl_IsOddSet.sem o (o1 : Int) X.out.rd J4.out).mono ?_); rintro e w12 ⟨rfl, hb⟩; have nX := Aside0.mk (X.out.below hb); have nHB := Aside0.mk (below_step HB.out hb); clear X HB hb; (try clear hX0 hX1); have X := nX; clear nX; have HB := nHB; clear nHB; obtain ⟨hX0, hX1⟩ := X.out.cells))
      go_meet
      case rel => exact ⟨rfl, HB⟩
  case rest => as_aux_lemma =>
    clear HB X hX0 hX1 Q0 Q1 Q2 Q3 HG
    obtain ⟨rfl, HB⟩ := hcut
    go_upto_region 23 with (go_at_call 19; (with_reducible refine (DrawEvenSplits_any (H2.out.below HB.out)).mono ?_); rintro e w13 ⟨u2, m2, o2, rfl, hr, hb⟩; obtain ⟨A2, c2, rfl⟩ := hr.slice; have R2 := Aside0.mk hr.rd; clear hr; have nHB := Aside0.mk (below_step HB.out hb); clear  HB hb; have HB := nHB; clear nHB; )
    obtain ⟨⟨r2, k2⟩, he⟩ : ∃ p, evensR m2 = p := ⟨_, rfl⟩
    have E1 := Aside0.mk he
    clear he
    go_upto_if 263 with (first
      | (go_at_call 20; (with_reducible refine (implEvenSplits_any o2 (R2.out.alloc _) E1.out).mono ?_); rintro e w14 ⟨u5, rfl, hn, hb⟩; obtain ⟨A5, c5, rfl⟩ := hn.slice; have R5 := Aside0.mk hn; clear hn; have Y := Aside0.mk (Gbox.new R2.out hb); have nHB := Aside0.mk (below_step HB.out (below_step (below_alloc (Below.refl _ _) _) hb)); clear  HB R2 hb; have HB := nHB; clear nHB; obtain ⟨hY0, hY1⟩ := Y.out.cells)
      | (go_at_call 21; (with_reducible refine (specEvenSplits_any o2 Y.out.rd E1.out).mono ?_); rintro e w15 ⟨u6, rfl, hn, hb⟩; obtain ⟨A6, c6, rfl⟩ := hn.slice; have R6 := Aside0.mk hn; clear hn; have nY := Aside0.mk (Y.out.below hb); have nR5 := Aside0.mk (R5.out.below hb); have nHB := Aside0.mk (below_step HB.out hb); clear Y R5 HB hb; (try clear hY0 hY1); have Y := nY; clear nY; have R5 := nR5; clear nR5; have HB := nHB; clear nHB; obtain ⟨hY0, hY1⟩ := Y.out.cells)
      | (go_at_call 22; (with_reducible refine (hSame_sem R5.out R6.out true (by simp)).mono ?_); rintro e w16 ⟨rfl, hb⟩; have nY := Aside0.mk (Y.out.below hb); have nR5 := Aside0.mk (R5.out.below hb); have nHB := Aside0.mk (below_step HB.out hb); clear Y R5 HB hb; (try clear hY0 hY1); have Y := nY; clear nY; have R5 := nR5; clear nR5; have HB := nHB; clear nHB; obtain ⟨hY0, hY1⟩ := Y.out.cells))
    go_cut [4, 32, 34] (fun v4 v32 v34 wc => v4 = .bool false ∧ Aside0 (Below W.heap.size W wc))
    case first => as_aux_lemma =>
      cases k2
      · go_wp2
        go_meet
        case rel => exact ⟨rfl, HB⟩
      · obtain ⟨hg2, h300, hr2⟩ := evens_ok E1.out
        subst hr2
        have hG := (good_iff m2).1 hg2
        have hm16 := hG.top
        have q0 := split_good 0 hg2
        have q2 := cnt_good 0 hg2
        have hol := sols_len hG
        rw [← hol] at q2 h300
        have hpos : 0 < (solsP m2).length := by rw [hol]; exact Nat.two_pow_pos _
        have hd : rd (ints (solsP m2)) 0 = (spP m2 0 : Int) := by
          have h1 := sols_head hG
          rw [show rd (ints (solsP m2)) 0 = (((solsP m2)[0] : Nat) : Int) from ints_get _ 0 hpos]
          rw [List.head?_eq_getElem?, List.getElem?_eq_getElem hpos] at h1
          injection h1 with h1
          rw [h1]
        have hot : ∀ x ∈ solsP m2, (ints (solsP m2)).contains ((othersP m2 x : Nat) : Int) = true ∧ Go.bits .andNot .i64 (((2 ^ m2.length : Nat) : Int) - 1) (x : Int) = ((othersP m2 x : Nat) : Int) := fun x hx => by
          have hz1 := Nat.two_pow_pos m2.length
          refine ⟨?_, by rw [show ((2 ^ m2.length : Nat) : Int) - 1 = ((2 ^ m2.length - 1 : Nat) : Int) by omega]; exact andnot_others hG ((solsP_mem _ _).1 hx).1⟩
          rw [ints_contains, List.contains_iff_mem]
          exact sols_others hx
        obtain ⟨hwz, hwy, _, _⟩ := pow_facts hm16
        have P0 := Aside0.mk q0
        have P2 := Aside0.mk q2
        have HD := Aside0.mk hd
        have HO := Aside0.mk hot
        have HWZ := Aside0.mk hwz
        have HWY := Aside0.mk hwy
        clear q0 q2 hd hot hol hG hg2 E1 R6 hwz hwy
        rw [ints_length] at R5 ⊢
        generalize solsP m2 = os at *
        generalize spP m2 0 = p at *
        generalize (2 : Nat) ^ m2.length - 1 = yy at *
        generalize (2 : Nat) ^ m2.length = zz at *
        go_upto_region 30 with (first
          | (go_at_call 12; (with_reducible refine (implCountEvenSplits_any o2 Y.out.rd P2.out).mono ?_); rintro e w17 ⟨rfl, hb⟩; have nY := Aside0.mk (Y.out.below hb); have nR5 := Aside0.mk (R5.out.below hb); have nHB := Aside0.mk (below_step HB.out hb); clear Y R5 HB hb; (try clear hY0 hY1); have Y := nY; clear nY; have R5 := nR5; clear nR5; have HB := nHB; clear nHB; obtain ⟨hY0, hY1⟩ := Y.out.cells)
          | (go_at_call 8; (with_reducible refine (implEvenSplit_any o2 Y.out.rd P0.out).mono ?_); rintro e w18 ⟨rfl, hb⟩; have nY := Aside0.mk (Y.out.below hb); have nR5 := Aside0.mk (R5.out.below hb); have nHB := Aside0.mk (below_step HB.out hb); clear Y R5 HB hb; (try clear hY0 hY1); have Y := nY; clear nY; have R5 := nR5; clear nR5; have HB := nHB; clear nHB; obtain ⟨hY0, hY1⟩ := Y.out.cells))
        obtain ⟨ad, e1, hc0⟩ := R5.out.cell0 hpos HD.out
        subst e1
        go_wp2
        go_loopw [4, 295] (fun v4 v295 wr => ∃ j : Nat, j ≤ os.length ∧ v295 = .int .i64 (j : Int) ∧ v4 = .bool false ∧ Aside0 (Rd wr (.slice (some ad) os.length c5) (ints os)) ∧ Aside0 (Gbox wr w13.heap.size (.slice A2 m2.length c2) o2 m2) ∧ Aside0 (Below W.heap.size W wr)) (fun _ v295 _ => os.length - (intOf v295).toNat)
        case atStart => exact ⟨0, Nat.zero_le _, rfl, rfl, R5, Y, HB⟩
        case round => as_aux_lemma =>
          clear R5 Y HB hY0 hY1 hc0
          obtain ⟨j, hj, rfl, rfl, R5, Y, HB⟩ := hrel
          obtain ⟨hY0, hY1⟩ := Y.out.cells
          by_cases hlt : j < os.length
          · have hcell := R5.out.cellN j (by first | omega | (rw [ints_length]; omega))
            rw [ints_get os j hlt] at hcell
            obtain ⟨ho1, ho2⟩ := HO.out os[j] (List.getElem_mem hlt)
            generalize othersP m2 os[j] = ox at *
            generalize os[j] = x at *
            have HC := Aside0.mk ho1
            have hwz := HWZ.out
            have hwy := HWY.out
            clear ho1
            go_wp2_with (go_at_call 23; (with_reducible refine (hHas_sem R5.out (ox : Int) true HC.out).mono ?_); rintro e w19 ⟨rfl, hb⟩; (try clear hcell); have nY := Aside0.mk (Y.out.below hb); have nR5 := Aside0.mk (R5.out.below hb); have nHB := Aside0.mk (below_step HB.out hb); clear Y R5 HB hb; (try clear hY0 hY1); have Y := nY; clear nY; have R5 := nR5; clear nR5; have HB := nHB; clear nHB; obtain ⟨hY0, hY1⟩ := Y.out.cells)
            go_roundw
            case rel => exact ⟨j + 1, by omega, by go_num, rfl, R5, Y, HB⟩
            case measure => simp [intOf]; omega
          · go_wp2
            go_meet
            case rel => exact ⟨rfl, HB⟩
    case rest => as_aux_lemma =>
      clear HB Y hY0 hY1 R5 R6 E1
      obtain ⟨rfl, HB⟩ := hcut
      go_upto_region 39 with (go_at_call 24; (with_reducible refine (DrawIsEvenSet_any (H2.out.below HB.out)).mono ?_); rintro e w20 ⟨u3, m3, o3, s3, rfl, hr, hb⟩; obtain ⟨A3, c3, rfl⟩ := hr.slice; have R3 := Aside0.mk hr.rd; clear hr; have nHB := Aside0.mk (below_step HB.out hb); clear  HB hb; have HB := nHB; clear nHB; )
      obtain ⟨⟨x3, k3⟩, h3⟩ : ∃ p, isParR m3 s3 0 = p := ⟨_, rfl⟩
      have Q3 := Aside0.mk h3
      clear h3
      go_upto_region 42 with (first
        | (go_at_call 17; (with_reducible refine (impl_IsEvenSet.sem o3 s3 (R3.out.alloc _) Q3.out).mono ?_); rintro e w21 ⟨rfl, hb⟩; have Z := Aside0.mk (Gbox.new R3.out hb); have nHB := Aside0.mk (below_step HB.out (below_step (below_alloc (Below.refl _ _) _) hb)); clear  HB R3 hb; have HB := nHB; clear nHB; obtain ⟨hZ0, hZ1⟩ := Z.out.cells)
        | (go_at_call 25; (with_reducible refine (spec_IsEvenSet.sem o3 s3 Z.out.rd Q3.out).mono ?_); rintro e w22 ⟨rfl, hb⟩; have nZ := Aside0.mk (Z.out.below hb); have nHB := Aside0.mk (below_step HB.out hb); clear Z HB hb; (try clear hZ0 hZ1); have Z := nZ; clear nZ; have HB := nHB; clear nHB; obtain ⟨hZ0, hZ1⟩ := Z.out.cells)
        | (go_at_call 26; (with_reducible refine (DrawIsOddSet_any (H2.out.below HB.out)).mono ?_); rintro e w23 ⟨u4, m4, o4, s4, rfl, hr, hb⟩; obtain ⟨A4, c4, rfl⟩ := hr.slice; have R4 := Aside0.mk hr.rd; clear hr Z hZ0 hZ1; have nHB := Aside0.mk (below_step HB.out hb); clear  HB hb; have HB := nHB; clear nHB; ))
      obtain ⟨⟨x4, k4⟩, h4⟩ : ∃ p, isParR m4 s4 1 = p := ⟨_, rfl⟩
      have Q4 := Aside0.mk h4
      clear h4 Q3
      go_upto_region 45 with (first
        | (go_at_call 18; (with_reducible refine (impl_IsOddSet.sem o4 s4 (R4.out.alloc _) Q4.out).mono ?_); rintro e w24 ⟨rfl, hb⟩; have V := Aside0.mk (Gbox.new R4.out hb); have nHB := Aside0.mk (below_step HB.out (below_step (below_alloc (Below.refl _ _) _) hb)); clear  HB R4 hb; have HB := nHB; clear nHB; obtain ⟨hV0, hV1⟩ := V.out.cells)
        | (go_at_call 27; (with_reducible refine (spec_IsOddSet.sem o4 s4 V.out.rd Q4.out).mono ?_); rintro e w25 ⟨rfl, hb⟩; have nV := Aside0.mk (V.out.below hb); have nHB := Aside0.mk (below_step HB.out hb); clear V HB hb; (try clear hV0 hV1); have V := nV; clear nV; have HB := nHB; clear nHB; obtain ⟨hV0, hV1⟩ := V.out.cells)
        | (go_at_call 28; (with_reducible refine (DrawDegreesWithin_any (H2.out.below HB.out)).mono ?_); rintro e w26 ⟨u5, m5, o5, s5, rfl, hr, hb⟩; obtain ⟨A7, c7, rfl⟩ := hr.slice; have R7 := Aside0.mk hr.rd; clear hr V hV0 hV1; have nHB := Aside0.mk (below_step HB.out hb); clear  HB hb; have HB := nHB; clear nHB; ))
      obtain ⟨⟨r5, k5⟩, h5⟩ : ∃ p, degR m5 s5 = p := ⟨_, rfl⟩
      have Q5 := Aside0.mk h5
      clear h5 Q4
      cases k5
      · go_wp2_with (first
          | (go_at_call 29; (with_reducible refine (impl_DegreesWithin.sem o5 s5 (R7.out.alloc _) Q5.out).mono ?_); rintro e w27 ⟨u8, rfl, hn, hb⟩; obtain ⟨A8, c8, rfl⟩ := hn.slice; have R8 := Aside0.mk hn; clear hn; have U := Aside0.mk (Gbox.new R7.out hb); have nHB := Aside0.mk (below_step HB.out (below_step (below_alloc (Below.refl _ _) _) hb)); clear  HB R7 hb; have HB := nHB; clear nHB; obtain ⟨hU0, hU1⟩ := U.out.cells)
          | (go_at_call 30; (with_reducible refine (spec_DegreesWithin.sem o5 s5 U.out.rd Q5.out).mono ?_); rintro e w28 ⟨u9, rfl, hn, hb⟩; obtain ⟨A9, c9, rfl⟩ := hn.slice; have R9 := Aside0.mk hn; clear hn; have nU := Aside0.mk (U.out.below hb); have nR8 := Aside0.mk (R8.out.below hb); have nHB := Aside0.mk (below_step HB.out hb); clear U R8 HB hb; (try clear hU0 hU1); have U := nU; clear nU; have R8 := nR8; clear nR8; have HB := nHB; clear nHB; obtain ⟨hU0, hU1⟩ := U.out.cells)
          | (go_at_call 22; (with_reducible refine (hSame_sem R8.out R9.out true (by simp)).mono ?_); rintro e w29 ⟨rfl, hb⟩; have nU := Aside0.mk (U.out.below hb); have nR8 := Aside0.mk (R8.out.below hb); have nHB := Aside0.mk (below_step HB.out hb); clear U R8 HB hb; (try clear hU0 hU1); have U := nU; clear nU; have R8 := nR8; clear nR8; have HB := nHB; clear nHB; obtain ⟨hU0, hU1⟩ := U.out.cells))
        go_ret
        exact ⟨rfl, HB.out⟩
      · obtain ⟨d, hd1, hd2, hd3⟩ := deg_ok Q5.out
        subst hd1
        obtain ⟨sm, hsm⟩ : ∃ s, d.sum = s := ⟨_, rfl⟩
        rw [hsm] at hd2 hd3
        have HSM := Aside0.mk hsm
        have t1 : ((sm : Int) % 2 == 0) = true := by rw [beq_iff_eq]; omega
        have t2 : (Int.tmod (sm : Int) 2 == 0) = true := by rw [beq_iff_eq, show Int.tmod (sm : Int) 2 = ((sm % 2 : Nat) : Int) from rfl]; omega
        clear hsm
        go_wp2_with (first
          | (go_at_call 29; (with_reducible refine (impl_DegreesWithin.sem o5 s5 (R7.out.alloc _) Q5.out).mono ?_); rintro e w27 ⟨u8, rfl, hn, hb⟩; obtain ⟨A8, c8, rfl⟩ := hn.slice; have R8 := Aside0.mk hn; clear hn; have U := Aside0.mk (Gbox.new R7.out hb); have nHB := Aside0.mk (below_step HB.out (below_step (below_alloc (Below.refl _ _) _) hb)); clear  HB R7 hb; have HB := nHB; clear nHB; obtain ⟨hU0, hU1⟩ := U.out.cells)
          | (go_at_call 30; (with_reducible refine (spec_DegreesWithin.sem o5 s5 U.out.rd Q5.out).mono ?_); rintro e w28 ⟨u9, rfl, hn, hb⟩; obtain ⟨A9, c9, rfl⟩ := hn.slice; have R9 := Aside0.mk hn; clear hn; have nU := Aside0.mk (U.out.below hb); have nR8 := Aside0.mk (R8.out.below hb); have nHB := Aside0.mk (below_step HB.out hb); clear U R8 HB hb; (try clear hU0 hU1); have U := nU; clear nU; have R8 := nR8; clear nR8; have HB := nHB; clear nHB; obtain ⟨hU0, hU1⟩ := U.out.cells)
          | (go_at_call 22; (with_reducible refine (hSame_sem R8.out R9.out true (by simp)).mono ?_); rintro e w29 ⟨rfl, hb⟩; have nU := Aside0.mk (U.out.below hb); have nR8 := Aside0.mk (R8.out.below hb); have nHB := Aside0.mk (below_step HB.out hb); clear U R8 HB hb; (try clear hU0 hU1); have U := nU; clear nU; have R8 := nR8; clear nR8; have HB := nHB; clear nHB; obtain ⟨hU0, hU1⟩ := U.out.cells)
          | (go_at_call 31; (with_reducible refine (hSum_sem R8.out (by rw [HSM.out]; omega)).mono ?_); rintro e w30 ⟨rfl, hb⟩; rw [HSM.out]; have nU := Aside0.mk (U.out.below hb); have nHB := Aside0.mk (below_step HB.out hb); clear U HB hb; (try clear hU0 hU1); have U := nU; clear nU; have HB := nHB; clear nHB; obtain ⟨hU0, hU1⟩ := U.out.cells))
        go_ret
        exact ⟨rfl, HB.out⟩
theorem FnSplitsOfGraphs_walk (a0 : Option Addr) (len0 cap0 : Nat) (z0 : List Int) (a1 : Option Addr) (len1 cap1 : Nat) (z1 : List Int) (w : World) (h0 : YtlohlngmagpepaaGreatGr.IsRow .u8 w a0 len0 cap0 z0) (y0 : len0 * 1 ≤ 140737488351232) (h1 : YtlohlngmagpepaaGreatGr.IsRow .u8 w a1 len1 cap1 z1) (y1 : len1 * 1 ≤ 140737488351232) :
    Calls Tryz.prog 3 #[.slice a0 len0 cap0, .slice a1 len1 cap1] w fun e w' => e = .returned (.bool true) ∧ Below w.heap.size w w' := by
  obtain ⟨l0, g0⟩ := Rb.row h0
  obtain ⟨l1, g1⟩ := Rb.row h1
  exact law_main g0 g1
end Go.Proofs.YtlohlngmagpepaaGreat.Draw
