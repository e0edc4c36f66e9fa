/- The walk of FnQuietPatterns: the call returns true and leaves memory as it was. Conditions: what its row lays. -/
import Derived.Test.YtjoeakahfomckaaGreatPFnQuietPatternsx
import Derived.Test.YtjoeakahfomckaaGreatQFnQuietPatterns0
import Derived.Test.YtjoeakahfomckaaGreatQFnQuietPatterns1
import Derived.Test.YtjoeakahfomckaaGreatM1
import Derived.Test.YtjoeakahfomckaaGreatM33
import Derived.WalkKit
import Derived.RowKit3
import Derived.Deep.QuietTactic
import Derived.BigQuiet
import Derived.Deep.DeepCutAuto
import Derived.Deep.CutBlock
import Derived.Deep.LoopGhost
import Derived.Outline
import Derived.Deep.DeepFit
import Derived.Test.YtjoeakahfomckaaGreatDFnQuietPatterns0
import Derived.Test.YtjoeakahfomckaaGreatDFnQuietPatterns1
import Derived.Test.YtjoeakahfomckaaGreatDFnQuietPatterns2
import Derived.Test.YtjoeakahfomckaaGreatDFnQuietPatterns3
import Derived.Test.YtjoeakahfomckaaGreatDFnQuietPatterns4
import Derived.Test.YtjoeakahfomckaaGreatDFnQuietPatterns5
import Derived.Test.YtjoeakahfomckaaGreatDFnQuietPatterns6
import Derived.Test.YtjoeakahfomckaaGreatDFnQuietPatterns7
import Derived.Test.YtjoeakahfomckaaGreatDFnQuietPatterns8
import Derived.StillTailTactics
namespace Go.Proofs.YtjoeakahfomckaaGreat.Draw
open Go.RowKit Go.Proofs.YtjoeakahfomckaaGreat.PFnQuietPatterns Go.Proofs.YtjoeakahfomckaaGreatW.PrintWords Go.Proofs.YtjoeakahfomckaaGreatW.PrintLast Go.Proofs.YtjoeakahfomckaaGreatW.PrintMore Go.Proofs.YtjoeakahfomckaaGreatM Go.Proofs.YtjoeakahfomckaaGreat.Pure
attribute [local go_sem] max2_int min2_int max_two min_two max_three min_three max_four min_four
set_option linter.unusedVariables false
set_option linter.unusedSimpArgs false
theorem shr_form2 {x tb : Nat} (h : tb ≤ 64) (hz : (x >>> tb) % 2 = 0) : ((((x : Int) / 2 ^ tb).tmod 2) == 1) = false := by
  have := shr_form h hz
  rwa [Nat.min_eq_left h] at this
theorem qb_eq (l : List Int) (own : Bool) : qbR l own = ((if good l = true then ints (svG l own).quiet else []), good l) := by
  unfold qbR
  cases good l <;> rfl
theorem ib_eq (l : List Int) (own : Bool) : ibR l own = ((if good l = true then ints (svG l own).image else []), good l) := by
  unfold ibR
  cases good l <;> rfl
theorem qb_small {l r : List Int} {own b : Bool} (h : qbR l own = (r, b)) : r.length ≤ 1048576 := by
  rw [qb_eq] at h
  injection h with h1 _
  subst h1
  cases e : good l
  · simp
  · have := (quiet_small ((good_iff l).1 e) own).2.1
    rw [if_pos rfl, ints_length]
    omega
theorem ib_small {l r : List Int} {own b : Bool} (h : ibR l own = (r, b)) : r.length ≤ 1048576 := by
  rw [ib_eq] at h
  injection h with h1 _
  subst h1
  cases e : good l
  · simp
  · have := (image_small ((good_iff l).1 e) own).2.1
    rw [if_pos rfl, ints_length]
    omega
theorem qp_small {l r : List Int} {own b : Bool} (h : qpR l own = (r, b)) : r.length ≤ 1048576 := by
  unfold qpR at h
  split at h
  · next e =>
    rw [Bool.and_eq_true] at e
    obtain ⟨h1, h2, _⟩ := quiet_small ((good_iff l).1 e.1) own
    injection h with h3 _
    subst h3
    have := (sums_small h1 h2 (svG l own).quiet.length).2.1
    rw [List.take_length] at this
    rw [ints_length]
    exact Nat.le_trans this (by decide)
  · injection h with h3 _
    subst h3
    simp
set_option maxRecDepth 100000 in
set_option maxHeartbeats 4000000 in
theorem law_main {W : World} {v v2 : Value} {l l2 : List Int} (h : Rb W v l) (h2 : Rb W v2 l2) : Calls Tryz.prog 3 #[v, v2] W fun e W' => e = .returned (.bool true) ∧ Below W.heap.size W W' := by
  have hu := Tryz.underlying26
  have HB := Aside0.mk (Below.refl W.heap.size W)
  have H1 := Aside0.mk h
  have H2 := Aside0.mk h2
  clear h h2
  go_enter Tryz.func3, Tryz.ntmps3
  go_upto_if 135 with (first
    | (go_at_call 5; refine (big_any H1.out H2.out).mono ?_; rintro e w1 ⟨nd, b, rfl, rfl⟩; have nHB := Aside0.mk (pw_below_drewN HB.out nd); clear HB; have HB := nHB; clear nHB)
    | (go_at_call 6; (with_reducible refine (DrawQuietBasis_any (H1.out.below HB.out)).mono ?_); rintro e w2 ⟨u1, m, o, rfl, hr, hb⟩; obtain ⟨A1, c1, rfl⟩ := hr.slice; have R := Aside0.mk hr.rd; clear hr; obtain ⟨gb, hq_⟩ : ∃ r, (good m) = r := ⟨_, rfl⟩; have GB := Aside0.mk hq_; clear hq_; obtain ⟨qr, hq⟩ : ∃ r, qbR m o = (r, gb) := (by rw [qb_eq, GB.out]; exact ⟨_, rfl⟩); obtain ⟨ir, hi⟩ : ∃ r, ibR m o = (r, gb) := (by rw [ib_eq, GB.out]; exact ⟨_, rfl⟩); have QB := Aside0.mk hq; have IB := Aside0.mk hi; clear hq hi; obtain ⟨nx, hq_⟩ : ∃ r, (if gb = true then ((svOf (togs m o)).quiet.length : Int) else 0) = r := ⟨_, rfl⟩; have NU := Aside0.mk hq_; clear hq_; obtain ⟨rx, hq_⟩ : ∃ r, (if gb = true then ((svOf (togs m o)).image.length : Int) else 0) = r := ⟨_, rfl⟩; have RK := Aside0.mk hq_; clear hq_; obtain ⟨cx, hq_⟩ : ∃ r, (if gb = true then ((2 ^ (svOf (togs m o)).image.length : Nat) : Int) else 0) = r := ⟨_, rfl⟩; have CS := Aside0.mk hq_; clear hq_; have nHB := Aside0.mk (below_step HB.out hb); clear  HB hb; have HB := nHB; clear nHB; )
    | (go_at_call 7; (with_reducible refine (QuietBasisR_any o (R.out.alloc _) QB.out).mono ?_); rintro e w3 ⟨u3, rfl, hr, hb⟩; obtain ⟨A3, c3, rfl⟩ := hr.slice; have R3 := Aside0.mk hr; clear hr; have X := Aside0.mk (Gbox.new R.out hb); have nHB := Aside0.mk (below_step HB.out (below_step (below_alloc (Below.refl _ _) _) hb)); clear  HB R hb; have HB := nHB; clear nHB; obtain ⟨hX0, hX1⟩ := X.out.cells)
    | (go_at_call 8; (with_reducible refine (spec_QuietBasis.sem o X.out.rd QB.out (qb_small QB.out)).mono ?_); rintro e w4 ⟨u4, rfl, hr, hb⟩; obtain ⟨A4, c4, rfl⟩ := hr.slice; have R4 := Aside0.mk hr; clear hr; have nX := Aside0.mk (X.out.below hb); have nR3 := Aside0.mk (R3.out.below hb); have nHB := Aside0.mk (below_step HB.out hb); clear X R3 HB hb; (try clear hX0 hX1); have X := nX; clear nX; have R3 := nR3; clear nR3; have HB := nHB; clear nHB; obtain ⟨hX0, hX1⟩ := X.out.cells)
    | (go_at_call 9; (with_reducible refine (ImageBasisR_any o X.out.rd IB.out).mono ?_); rintro e w5 ⟨u5, rfl, hr, hb⟩; obtain ⟨A5, c5, rfl⟩ := hr.slice; have R5 := Aside0.mk hr; clear hr; have nX := Aside0.mk (X.out.below hb); have nR3 := Aside0.mk (R3.out.below hb); have nR4 := Aside0.mk (R4.out.below hb); have nHB := Aside0.mk (below_step HB.out hb); clear X R3 R4 HB hb; (try clear hX0 hX1); have X := nX; clear nX; have R3 := nR3; clear nR3; have R4 := nR4; clear nR4; have HB := nHB; clear nHB; obtain ⟨hX0, hX1⟩ := X.out.cells)
    | (go_at_call 10; (with_reducible refine (spec_ImageBasis.sem o X.out.rd IB.out (ib_small IB.out)).mono ?_); rintro e w6 ⟨u6, rfl, hr, hb⟩; obtain ⟨A6, c6, rfl⟩ := hr.slice; have R6 := Aside0.mk hr; clear hr; have nX := Aside0.mk (X.out.below hb); have nR3 := Aside0.mk (R3.out.below hb); have nR4 := Aside0.mk (R4.out.below hb); have nR5 := Aside0.mk (R5.out.below hb); have nHB := Aside0.mk (below_step HB.out hb); clear X R3 R4 R5 HB hb; (try clear hX0 hX1); have X := nX; clear nX; have R3 := nR3; clear nR3; have R4 := nR4; clear nR4; have R5 := nR5; clear nR5; have HB := nHB; clear nHB; obtain ⟨hX0, hX1⟩ := X.out.cells)
    | (go_at_call 11; (with_reducible refine (RankOf_any o X.out.rd GB.out RK.out).mono ?_); rintro e w7 ⟨rfl, hb⟩; have nX := Aside0.mk (X.out.below hb); have nR3 := Aside0.mk (R3.out.below hb); have nR4 := Aside0.mk (R4.out.below hb); have nR5 := Aside0.mk (R5.out.below hb); have nR6 := Aside0.mk (R6.out.below hb); have nHB := Aside0.mk (below_step HB.out hb); clear X R3 R4 R5 R6 HB hb; (try clear hX0 hX1); have X := nX; clear nX; have R3 := nR3; clear nR3; have R4 := nR4; clear nR4; have R5 := nR5; clear nR5; have R6 := nR6; clear nR6; have HB := nHB; clear nHB; obtain ⟨hX0, hX1⟩ := X.out.cells)
    | (go_at_call 12; (with_reducible refine (NullityOf_any o X.out.rd GB.out NU.out).mono ?_); rintro e w8 ⟨rfl, hb⟩; have nX := Aside0.mk (X.out.below hb); have nR3 := Aside0.mk (R3.out.below hb); have nR4 := Aside0.mk (R4.out.below hb); have nR5 := Aside0.mk (R5.out.below hb); have nR6 := Aside0.mk (R6.out.below hb); have nHB := Aside0.mk (below_step HB.out hb); clear X R3 R4 R5 R6 HB hb; (try clear hX0 hX1); have X := nX; clear nX; have R3 := nR3; clear nR3; have R4 := nR4; clear nR4; have R5 := nR5; clear nR5; have R6 := nR6; clear nR6; have HB := nHB; clear nHB; obtain ⟨hX0, hX1⟩ := X.out.cells)
    | (go_at_call 13; (with_reducible refine (CountSolvable_any o X.out.rd GB.out CS.out).mono ?_); rintro e w9 ⟨rfl, hb⟩; have nX := Aside0.mk (X.out.below hb); have nR3 := Aside0.mk (R3.out.below hb); have nR4 := Aside0.mk (R4.out.below hb); have nR5 := Aside0.mk (R5.out.below hb); have nR6 := Aside0.mk (R6.out.below hb); have nHB := Aside0.mk (below_step HB.out hb); clear X R3 R4 R5 R6 HB hb; (try clear hX0 hX1); have X := nX; clear nX; have R3 := nR3; clear nR3; have R4 := nR4; clear nR4; have R5 := nR5; clear nR5; have R6 := nR6; clear nR6; have HB := nHB; clear nHB; obtain ⟨hX0, hX1⟩ := X.out.cells)
    | (go_at_call 14; (with_reducible refine (vSame_sem R3.out R4.out (decide_eq_true rfl)).mono ?_); rintro e w10 ⟨rfl, hb⟩; clear R4; have nX := Aside0.mk (X.out.below hb); have nR3 := Aside0.mk (R3.out.below hb); have nR5 := Aside0.mk (R5.out.below hb); have nR6 := Aside0.mk (R6.out.below hb); have nHB := Aside0.mk (below_step HB.out hb); clear X R3 R5 R6 HB hb; (try clear hX0 hX1); have X := nX; clear nX; have R3 := nR3; clear nR3; have R5 := nR5; clear nR5; have R6 := nR6; clear nR6; have HB := nHB; clear nHB; obtain ⟨hX0, hX1⟩ := X.out.cells)
    | (go_at_call 14; (with_reducible refine (vSame_sem R5.out R6.out (decide_eq_true rfl)).mono ?_); rintro e w11 ⟨rfl, hb⟩; clear R6; have nX := Aside0.mk (X.out.below hb); have nR3 := Aside0.mk (R3.out.below hb); have nR5 := Aside0.mk (R5.out.below hb); have nHB := Aside0.mk (below_step HB.out hb); clear X R3 R5 HB hb; (try clear hX0 hX1); have X := nX; clear nX; have R3 := nR3; clear nR3; have R5 := nR5; clear nR5; have HB := nHB; clear nHB; obtain ⟨hX0, hX1⟩ := X.out.cells))
  · go_ret
    exact ⟨rfl, HB.out⟩
  go_cut [4] (fun _ wc => Aside0 (Below W.heap.size W wc))
  case first => as_aux_lemma =>
    cases gb
    · go_wp2
      go_meet
      case rel => exact HB
    · have hG := (good_iff m).1 GB.out
      obtain ⟨hq1, hq2, hq3⟩ := quiet_small hG o
      obtain ⟨hi1, hi2, hi3⟩ := image_small hG o
      have hI := inv_graph hG o
      have hrq := hI.rq
      have hri := hI.ri
      have eq1 : ints (svG m o).quiet = qr := by
        have h := QB.out
        rw [qb_eq, GB.out] at h
        injection h
      have ei1 : ints (svG m o).image = ir := by
        have h := IB.out
        rw [ib_eq, GB.out] at h
        injection h
      have en : ((svG m o).quiet.length : Int) = nx := (if_pos rfl).symm.trans NU.out
      have er : ((svG m o).image.length : Int) = rx := (if_pos rfl).symm.trans RK.out
      have ec : ((2 ^ (svG m o).image.length : Nat) : Int) = cx := (if_pos rfl).symm.trans CS.out
      have HP := Aside0.mk (quiet_press hG o)
      have HT := Aside0.mk (fun i hi => toggles_red hG o (i := i) hi)
      have hrq2 : (svG m o).image.length + (svG m o).quiet.length = m.length := by
        show (svOf (togs m o)).image.length + (svOf (togs m o)).quiet.length = m.length
        omega
      have HGG := Aside0.mk hG
      clear QB IB NU RK CS hI hrq hri hG
      subst eq1
      subst ei1
      subst en
      subst er
      generalize (svG m o).quiet = q at *
      generalize (svG m o).image = im at *
      generalize hnq : (ints q).length = nq at *
      have e5 : nq = q.length := hnq.symm.trans (ints_length q)
      clear hnq
      subst e5
      generalize hni : (ints im).length = ni at *
      have e6 : ni = im.length := hni.symm.trans (ints_length im)
      clear hni
      subst e6
      have hm := HGG.out.top
      have t1 : (wrap64 ((im.length : Int) + (q.length : Int)) != (m.length : Int)) = false := by
        rw [wrap_id (by omega) (by omega)]
        simp
        omega
      have t2 : (cx != wrap64 (2 ^ im.length)) = false := by
        have h2 : (2 : Nat) ^ im.length ≤ 2 ^ 16 := Nat.pow_le_pow_right (by decide) hi2
        rw [← ec, ← pow_cast]
        generalize 2 ^ im.length = k at h2 ⊢
        rw [wrap_id (by omega) (by omega)]
        simp
      have HQ1 := Aside0.mk hq1
      have HQ3 := Aside0.mk hq3
      clear hq1 hq3 hi1 hi3 ec
      go_wp2
      go_loopw [163] (fun v163 wr => ∃ j : Nat, j ≤ q.length ∧ v163 = .int .i64 (j : Int) ∧ Aside0 (Gbox wr w2.heap.size (.slice A1 m.length c1) o m) ∧ Aside0 (Rd wr (.slice A3 q.length c3) (ints q)) ∧ Aside0 (Rd wr (.slice A5 im.length c5) (ints im)) ∧ Aside0 (Below W.heap.size W wr)) (fun v163 _ => q.length - (intOf v163).toNat)
      case atStart => exact ⟨0, Nat.zero_le _, rfl, X, R3, R5, HB⟩
      case round => as_aux_lemma =>
        clear X HB R3 R5 hX0 hX1
        obtain ⟨j, hj, rfl, X, R3, R5, HB⟩ := hrel
        obtain ⟨hX0, hX1⟩ := X.out.cells
        by_cases hlt : j < q.length
        · obtain ⟨ad, e1, hc_⟩ := R3.out.cell (j : Int) (by omega) (by first | omega | (rw [ints_length]; omega))
          subst e1
          clear hc_
          have hcell := R3.out.cellN j (by first | omega | (rw [ints_length]; omega))
          rw [ints_get q j hlt] at hcell
          have hbj := HQ1.out q[j] (List.getElem_mem hlt)
          have hb0 := HQ3.out.pos q[j] (List.getElem_mem hlt)
          have QP := Aside0.mk (HP.out q[j] (List.getElem_mem hlt))
          have HUP := Aside0.mk (fun h0 => quiet_up HQ3.out hlt h0)
          have HCL := Aside0.mk (fun i (hi : i < q.length) hne => quiet_clean HQ3.out (i := i) hi hlt hne)
          obtain ⟨b, hb⟩ : ∃ b, q[j] = b := ⟨_, rfl⟩
          rw [hb] at hcell hbj hb0 QP HUP HCL
          obtain ⟨tb, htb⟩ : ∃ t, blen b - 1 = t := ⟨_, rfl⟩
          rw [htb] at HUP HCL
          have HTB := Aside0.mk htb
          have htb16 : tb ≤ 16 := by
            have := blen_le (k := 16) (x := b) (by omega)
            omega
          clear hb htb
          go_upto_region 20 with (go_at_call 15; (with_reducible refine (impl_EffectOf.sem o (b : Int) X.out.rd QP.out).mono ?_); rintro e w12 ⟨rfl, hb⟩; clear hcell; have nX := Aside0.mk (X.out.below hb); have nR3 := Aside0.mk (R3.out.below hb); have nR5 := Aside0.mk (R5.out.below hb); have nHB := Aside0.mk (below_step HB.out hb); clear X R3 R5 HB hb; (try clear hX0 hX1); have X := nX; clear nX; have R3 := nR3; clear nR3; have R5 := nR5; clear nR5; have HB := nHB; clear nHB; obtain ⟨hX0, hX1⟩ := X.out.cells)
          go_cut [194] (fun v194 wr => v194 = .bool false ∧ Aside0 (Gbox wr w2.heap.size (.slice A1 m.length c1) o m) ∧ Aside0 (Rd wr (.slice (some ad) q.length c3) (ints q)) ∧ Aside0 (Rd wr (.slice A5 im.length c5) (ints im)) ∧ Aside0 (Below W.heap.size W wr))
          case first =>
            by_cases j0 : j = 0
            · subst j0
              go_wp2
              go_meet
              case rel => exact ⟨rfl, X, R3, R5, HB⟩
            · have hw1 : wrap64 ((j : Int) - 1) = ((j - 1 : Nat) : Int) := by rw [wrap_id (by omega) (by omega)]; omega
              have hj1 : j - 1 < q.length := by omega
              have hjp : (0 : Int) < (j : Int) := by omega
              have hcell := R3.out.cellN (j - 1) (by first | omega | (rw [ints_length]; omega))
              rw [ints_get q (j - 1) hj1] at hcell
              have hup := HUP.out (by omega)
              have ha1 := HQ1.out q[j - 1] (List.getElem_mem hj1)
              have ha0 := HQ3.out.pos q[j - 1] (List.getElem_mem hj1)
              obtain ⟨a, ha⟩ : ∃ a, q[j - 1] = a := ⟨_, rfl⟩
              rw [ha] at hcell hup ha1 ha0
              obtain ⟨ta, hta⟩ : ∃ t, blen a - 1 = t := ⟨_, rfl⟩
              rw [hta] at hup
              have HTA := Aside0.mk hta
              clear ha hta
              have hge : ¬ (tb ≤ ta) := by omega
              go_wp2_with (first
                | (go_at_call 16; (with_reducible refine (vTop_sem a (by omega) ha0 HTA.out).mono ?_); rintro e w13 ⟨rfl, hb⟩; (try clear hcell); have nX := Aside0.mk (X.out.below hb); have nR3 := Aside0.mk (R3.out.below hb); have nR5 := Aside0.mk (R5.out.below hb); have nHB := Aside0.mk (below_step HB.out hb); clear X R3 R5 HB hb; (try clear hX0 hX1); have X := nX; clear nX; have R3 := nR3; clear nR3; have R5 := nR5; clear nR5; have HB := nHB; clear nHB; obtain ⟨hX0, hX1⟩ := X.out.cells)
                | (go_at_call 16; (with_reducible refine (vTop_sem b (by omega) hb0 HTB.out).mono ?_); rintro e w14 ⟨rfl, hb⟩; have nX := Aside0.mk (X.out.below hb); have nR3 := Aside0.mk (R3.out.below hb); have nR5 := Aside0.mk (R5.out.below hb); have nHB := Aside0.mk (below_step HB.out hb); clear X R3 R5 HB hb; (try clear hX0 hX1); have X := nX; clear nX; have R3 := nR3; clear nR3; have R5 := nR5; clear nR5; have HB := nHB; clear nHB; obtain ⟨hX0, hX1⟩ := X.out.cells))
              go_meet
              case rel => exact ⟨rfl, X, R3, R5, HB⟩
          case rest =>
            clear X HB R3 R5 hX0 hX1
            obtain ⟨rfl, X, R3, R5, HB⟩ := hcut
            obtain ⟨hX0, hX1⟩ := X.out.cells
            go_wp2
            go_loopw [197] (fun v197 wr => ∃ i : Nat, i ≤ q.length ∧ v197 = .int .i64 (i : Int) ∧ Aside0 (Gbox wr w2.heap.size (.slice A1 m.length c1) o m) ∧ Aside0 (Rd wr (.slice (some ad) q.length c3) (ints q)) ∧ Aside0 (Rd wr (.slice A5 im.length c5) (ints im)) ∧ Aside0 (Below W.heap.size W wr)) (fun v197 _ => q.length - (intOf v197).toNat)
            case atStart => exact ⟨0, Nat.zero_le _, rfl, X, R3, R5, HB⟩
            case round =>
              clear X HB R3 R5 hX0 hX1
              obtain ⟨i, hi, rfl, X, R3, R5, HB⟩ := hrel
              obtain ⟨hX0, hX1⟩ := X.out.cells
              by_cases hli : i < q.length
              · have hcell := R3.out.cellN i (by first | omega | (rw [ints_length]; omega))
                rw [ints_get q i hli] at hcell
                have hx1 := HQ1.out q[i] (List.getElem_mem hli)
                by_cases hij : i = j
                · subst hij
                  go_wp2
                  go_roundw
                  case rel => exact ⟨i + 1, by omega, by go_num, X, R3, R5, HB⟩
                  case measure => simp [intOf]; omega
                · have hne : ((i : Int) != (j : Int)) = true := by simp; omega
                  have hcl := HCL.out i hli hij
                  obtain ⟨x, hx⟩ : ∃ x, q[i] = x := ⟨_, rfl⟩
                  rw [hx] at hcell hx1 hcl
                  have t3 := shr_form2 (show tb ≤ 64 by omega) hcl
                  clear hx
                  go_wp2_with (go_at_call 16; (with_reducible refine (vTop_sem b (by omega) hb0 HTB.out).mono ?_); rintro e w14 ⟨rfl, hb⟩; (try clear hcell); have nX := Aside0.mk (X.out.below hb); have nR3 := Aside0.mk (R3.out.below hb); have nR5 := Aside0.mk (R5.out.below hb); have nHB := Aside0.mk (below_step HB.out hb); clear X R3 R5 HB hb; (try clear hX0 hX1); have X := nX; clear nX; have R3 := nR3; clear nR3; have R5 := nR5; clear nR5; have HB := nHB; clear nHB; obtain ⟨hX0, hX1⟩ := X.out.cells)
                  go_roundw
                  case rel => exact ⟨i + 1, by omega, by go_num, X, R3, R5, HB⟩
                  case measure => simp [intOf]; omega
              · go_wp2
                go_roundw
                case rel => exact ⟨j + 1, by omega, by go_num, X, R3, R5, HB⟩
                case measure => simp [intOf]; omega
        · go_wp2
          go_loopw [218] (fun v218 wr => ∃ i : Nat, i ≤ m.length ∧ v218 = .int .i64 (i : Int) ∧ Aside0 (Gbox wr w2.heap.size (.slice A1 m.length c1) o m) ∧ Aside0 (Rd wr (.slice A3 q.length c3) (ints q)) ∧ Aside0 (Rd wr (.slice A5 im.length c5) (ints im)) ∧ Aside0 (Below W.heap.size W wr)) (fun v218 _ => m.length - (intOf v218).toNat)
          case atStart => exact ⟨0, Nat.zero_le _, rfl, X, R3, R5, HB⟩
          case round =>
            clear X HB R3 R5 hX0 hX1
            obtain ⟨i, hi, rfl, X, R3, R5, HB⟩ := hrel
            obtain ⟨hX0, hX1⟩ := X.out.cells
            by_cases hli : i < m.length
            · have hG := HGG.out
              have htb := togg_bounds m o hG i hli
              have hc := pow_cast m.length
              have h3 := HT.out i hli
              have htt : togglesOf m o (i : Int) = (togg m o i, true) := by
                unfold togglesOf isBtn
                rw [(good_iff m).2 hG, Int.toNat_natCast]
                simp
                omega
              obtain ⟨t, ht⟩ : ∃ t, togg m o i = t := ⟨_, rfl⟩
              rw [ht] at htt h3
              have QT := Aside0.mk htt
              have QR := Aside0.mk h3
              clear htt ht hc htb h3 hG
              go_wp2_with (first
                | (go_at_call 17; (with_reducible refine (impl_TogglesOf.sem o (i : Int) X.out.rd QT.out).mono ?_); rintro e w21 ⟨rfl, hb⟩; have nX := Aside0.mk (X.out.below hb); have nR3 := Aside0.mk (R3.out.below hb); have nR5 := Aside0.mk (R5.out.below hb); have nHB := Aside0.mk (below_step HB.out hb); clear X R3 R5 HB hb; (try clear hX0 hX1); have X := nX; clear nX; have R3 := nR3; clear nR3; have R5 := nR5; clear nR5; have HB := nHB; clear nHB; obtain ⟨hX0, hX1⟩ := X.out.cells)
                | (go_at_call 18; (with_reducible refine (impl_ReducedSet.sem t R5.out QR.out).mono ?_); rintro e w22 ⟨rfl, hb⟩; have nX := Aside0.mk (X.out.below hb); have nR3 := Aside0.mk (R3.out.below hb); have nR5 := Aside0.mk (R5.out.below hb); have nHB := Aside0.mk (below_step HB.out hb); clear X R3 R5 HB hb; (try clear hX0 hX1); have X := nX; clear nX; have R3 := nR3; clear nR3; have R5 := nR5; clear nR5; have HB := nHB; clear nHB; obtain ⟨hX0, hX1⟩ := X.out.cells))
              go_roundw
              case rel => exact ⟨i + 1, by omega, by go_num, X, R3, R5, HB⟩
              case measure => simp [intOf]; omega
            · go_wp2
              go_meet
              case rel => exact HB
  case rest => as_aux_lemma =>
    have HB := hcut
    clear hcut
    (try clear X hX0 hX1 R3 R5)
    go_upto_if 265 with (first
      | (go_at_call 19; (with_reducible refine (DrawQuietPatterns_any (H2.out.below HB.out)).mono ?_); rintro e w31 ⟨u1, m, o, rfl, hr, hb⟩; obtain ⟨A1, c1, rfl⟩ := hr.slice; have R := Aside0.mk hr.rd; clear hr; obtain ⟨⟨qr, kq⟩, hq⟩ : ∃ r, qpR m o = r := ⟨_, rfl⟩; have QP := Aside0.mk hq; clear hq; have nHB := Aside0.mk (below_step HB.out hb); clear  HB hb; have HB := nHB; clear nHB; )
      | (go_at_call 20; (with_reducible refine (QuietPatterns_any o (R.out.alloc _) QP.out).mono ?_); rintro e w32 ⟨u3, rfl, hr, hb⟩; obtain ⟨A3, c3, rfl⟩ := hr.slice; have R3 := Aside0.mk hr; clear hr; have X := Aside0.mk (Gbox.new R.out hb); have nHB := Aside0.mk (below_step HB.out (below_step (below_alloc (Below.refl _ _) _) hb)); clear  HB R hb; have HB := nHB; clear nHB; obtain ⟨hX0, hX1⟩ := X.out.cells)
      | (go_at_call 21; (with_reducible refine (spec_QuietPatterns.sem o X.out.rd QP.out (qp_small QP.out)).mono ?_); rintro e w33 ⟨u4, rfl, hr, hb⟩; obtain ⟨A4, c4, rfl⟩ := hr.slice; have R4 := Aside0.mk hr; clear hr; have nX := Aside0.mk (X.out.below hb); have nR3 := Aside0.mk (R3.out.below hb); have nHB := Aside0.mk (below_step HB.out hb); clear X R3 HB hb; (try clear hX0 hX1); have X := nX; clear nX; have R3 := nR3; clear nR3; have HB := nHB; clear nHB; obtain ⟨hX0, hX1⟩ := X.out.cells)
      | (go_at_call 14; (with_reducible refine (vSame_sem R3.out R4.out (decide_eq_true rfl)).mono ?_); rintro e w34 ⟨rfl, hb⟩; clear R4; have nX := Aside0.mk (X.out.below hb); have nR3 := Aside0.mk (R3.out.below hb); have nHB := Aside0.mk (below_step HB.out hb); clear X R3 HB hb; (try clear hX0 hX1); have X := nX; clear nX; have R3 := nR3; clear nR3; have HB := nHB; clear nHB; obtain ⟨hX0, hX1⟩ := X.out.cells))
    go_cut [4] (fun _ wc => Aside0 (Below W.heap.size W wc))
    case first => as_aux_lemma =>
      cases kq
      · go_wp2
        go_meet
        case rel => exact HB
      · have hqp := QP.out
        unfold qpR at hqp
        cases e0 : (good m && decide ((svG m o).quiet.length ≤ 8))
        · rw [e0, if_neg (by decide)] at hqp
          injection hqp with _ h5
          cases h5
        · rw [e0, if_pos rfl] at hqp
          injection hqp with eq1 _
          rw [Bool.and_eq_true, decide_eq_true_eq] at e0
          obtain ⟨eg, e8⟩ := e0
          have hG := (good_iff m).1 eg
          have HSQ := Aside0.mk (sums_quiet hG o)
          obtain ⟨hq1, hq2, hq3⟩ := quiet_small hG o
          have HS := Aside0.mk (sums_all hq3)
          have hs2 : (sums (svG m o).quiet).length ≤ 65536 := by
            have := (sums_small hq1 hq2 (svG m o).quiet.length).2.1
            rwa [List.take_length] at this
          have hs1 : 0 < (sums (svG m o).quiet).length := by rw [HS.out.len]; exact Nat.two_pow_pos _
          have hlen := HS.out.len
          have HG := Aside0.mk eg
          have NU : Aside0 ((if true = true then ((svOf (togs m o)).quiet.length : Int) else 0) = ((svG m o).quiet.length : Int)) := ⟨rfl⟩
          clear QP hq1 hq3 hG eg
          subst eq1
          generalize sums (svG m o).quiet = sq at *
          generalize (svG m o).quiet = q at *
          generalize hnq : (ints sq).length = nq at *
          have e5 : nq = sq.length := hnq.symm.trans (ints_length sq)
          clear hnq
          subst e5
          have t1 : ((sq.length : Int) != wrap64 (2 ^ q.length)) = false := by
            have h2 : (2 : Nat) ^ q.length ≤ 2 ^ 16 := Nat.pow_le_pow_right (by decide) hq2
            rw [hlen, ← pow_cast]
            generalize 2 ^ q.length = k at h2 ⊢
            rw [wrap_id (by omega) (by omega)]
            simp
          obtain ⟨ad, e1, hc_⟩ := R3.out.cell (0 : Int) (by omega) (by first | omega | (rw [ints_length]; omega))
          subst e1
          clear hc_
          have hcell := R3.out.cellN 0 (by first | omega | (rw [ints_length]; omega))
          have h00 : sq[0] = 0 := by
            have h6 := HS.out.hd
            rw [List.head?_eq_getElem?, List.getElem?_eq_getElem hs1] at h6
            injection h6
          rw [ints_get sq 0 hs1, h00] at hcell
          clear hlen
          have ha0 : ad.add 0 = ad := by cases ad; simp [Addr.add]
          have hHQ2 : q.length ≤ 16 := hq2
          go_wp2_with (go_at_call 12; (with_reducible refine (NullityOf_any o X.out.rd HG.out NU.out).mono ?_); rintro e w35 ⟨rfl, hb⟩; clear hcell; have nX := Aside0.mk (X.out.below hb); have nR3 := Aside0.mk (R3.out.below hb); have nHB := Aside0.mk (below_step HB.out hb); clear X R3 HB hb; (try clear hX0 hX1); have X := nX; clear nX; have R3 := nR3; clear nR3; have HB := nHB; clear nHB; obtain ⟨hX0, hX1⟩ := X.out.cells; have hcell := R3.out.cellN 0 (by first | omega | (rw [ints_length]; omega)); rw [ints_get sq 0 hs1, h00] at hcell; have hcell0 := hcell; rw [ha0] at hcell0)
          go_loopw [38] (fun v38 wr => ∃ k : Nat, 1 ≤ k ∧ k ≤ sq.length ∧ v38 = .int .i64 (k : Int) ∧ Aside0 (Gbox wr w31.heap.size (.slice A1 m.length c1) o m) ∧ Aside0 (Rd wr (.slice (some ad) sq.length c3) (ints sq)) ∧ Aside0 (Below W.heap.size W wr)) (fun v38 _ => sq.length - (intOf v38).toNat)
          case atStart => exact ⟨1, Nat.le_refl _, hs1, rfl, X, R3, HB⟩
          case round =>
            clear X HB R3 hX0 hX1 hcell hcell0
            obtain ⟨k, hk1, hk, rfl, X, R3, HB⟩ := hrel
            obtain ⟨hX0, hX1⟩ := X.out.cells
            by_cases hlt : k < sq.length
            · have hkm : k - 1 < sq.length := by omega
              have hck := R3.out.cellN k (by first | omega | (rw [ints_length]; omega))
              rw [ints_get sq k hlt] at hck
              have hup := List.pairwise_iff_getElem.1 HS.out.up (k - 1) k hkm hlt (by omega)
              have QS := Aside0.mk (HSQ.out sq[k] (List.getElem_mem hlt))
              have HY : Aside0 (rd (ints sq) (k : Int) = ((sq[k] : Nat) : Int)) := ⟨ints_get sq k hlt⟩
              have HX : Aside0 (rd (ints sq) ((k - 1 : Nat) : Int) = ((sq[k - 1] : Nat) : Int)) := ⟨ints_get sq (k - 1) hkm⟩
              obtain ⟨y, hy⟩ : ∃ y, sq[k] = y := ⟨_, rfl⟩
              obtain ⟨x, hx⟩ : ∃ x, sq[k - 1] = x := ⟨_, rfl⟩
              rw [hy] at hck hup QS HY
              rw [hx] at hup HX
              clear hy hx
              have hw1 : wrap64 ((k : Int) - 1) = ((k - 1 : Nat) : Int) := by rw [wrap_id (by omega) (by omega)]; omega
              have hge : ¬ (y ≤ x) := by omega
              go_upto_region 49 with (fail)
              go_region_held3 (fun w' => w'.cell? ⟨w31.heap.size, 0, none⟩ = some (.slice A1 m.length c1) ∧ w'.cell? ⟨w31.heap.size, 1, none⟩ = some (.bool o) ∧ w'.cell? (ad.add k) = some (.int .i64 (y : Int))) (first | exact ⟨hX0, hX1, hck⟩ | go_keep) (first | (go_at_call 22; (with_reducible refine (impl_IsQuiet.sem o (y : Int) (X.out.below (below_drew1 (Below.refl _ _))).rd QS.out).mono ?_); rintro e w36 ⟨rfl, hb0⟩; have hb := below_step (below_drew1 (Below.refl wr.heap.size wr)) hb0; clear hb0 hck; have nX := Aside0.mk (X.out.below hb); have nR3 := Aside0.mk (R3.out.below hb); have nHB := Aside0.mk (below_step HB.out hb); clear X R3 HB hb; (try clear hX0 hX1); have X := nX; clear nX; have R3 := nR3; clear nR3; have HB := nHB; clear nHB; obtain ⟨hX0, hX1⟩ := X.out.cells; have hck := R3.out.cellN k (by first | omega | (rw [ints_length]; omega)); rw [HY.out] at hck))
              go_wp2
              have hck1 := R3.out.cellN (k - 1) (by first | omega | (rw [ints_length]; omega))
              rw [HX.out] at hck1
              go_region
              have hb : Below w36.heap.size w36 w36.drew := below_drew1 (Below.refl _ _)
              clear hck hck1
              have nX := Aside0.mk (X.out.below hb); have nR3 := Aside0.mk (R3.out.below hb); have nHB := Aside0.mk (below_step HB.out hb); clear X R3 HB hb; (try clear hX0 hX1); have X := nX; clear nX; have R3 := nR3; clear nR3; have HB := nHB; clear nHB; obtain ⟨hX0, hX1⟩ := X.out.cells
              go_wp2
              go_roundw
              case rel => exact ⟨k + 1, by omega, by omega, by go_num, X, R3, HB⟩
              case measure => simp [intOf]; omega
            · go_wp2
              go_meet
              case rel => exact HB
    case rest => as_aux_lemma =>
      have HB := hcut
      clear hcut
      (try clear X hX0 hX1 R3)
      go_upto_region 60 with (first
        | (go_at_call 23; (with_reducible refine (DrawIsQuiet_any (H2.out.below HB.out)).mono ?_); rintro e w41 ⟨u1, m, o, s, rfl, hr, hb⟩; obtain ⟨A1, c1, rfl⟩ := hr.slice; have R := Aside0.mk hr.rd; clear hr; obtain ⟨⟨xq, kq⟩, hq⟩ : ∃ r, isQuietR m o s = r := ⟨_, rfl⟩; have QI := Aside0.mk hq; clear hq; have nHB := Aside0.mk (below_step HB.out hb); clear  HB hb; have HB := nHB; clear nHB; )
        | (go_at_call 22; (with_reducible refine (impl_IsQuiet.sem o s (R.out.alloc _) QI.out).mono ?_); rintro e w42 ⟨rfl, hb⟩; have X := Aside0.mk (Gbox.new R.out hb); have nHB := Aside0.mk (below_step HB.out (below_step (below_alloc (Below.refl _ _) _) hb)); clear  HB R hb; have HB := nHB; clear nHB; obtain ⟨hX0, hX1⟩ := X.out.cells)
        | (go_at_call 24; (with_reducible refine (spec_IsQuiet.sem o s X.out.rd QI.out).mono ?_); rintro e w43 ⟨rfl, hb⟩; clear X hX0 hX1; have nHB := Aside0.mk (below_step HB.out hb); clear  HB hb; have HB := nHB; clear nHB; )
        | (go_at_call 25; (with_reducible refine (DrawReducedSet_any (H2.out.below HB.out)).mono ?_); rintro e w44 ⟨u5, sl, t, rfl, hn, hb⟩; obtain ⟨A5, c5, rfl⟩ := hn.slice; have RS := Aside0.mk hn.rd; clear hn; obtain ⟨⟨xr, kr⟩, hq⟩ : ∃ r, redSet sl t = r := ⟨_, rfl⟩; have QR := Aside0.mk hq; clear hq; have nHB := Aside0.mk (below_step HB.out hb); clear  HB hb; have HB := nHB; clear nHB; )
        | (go_at_call 18; (with_reducible refine (impl_ReducedSet.sem t RS.out QR.out).mono ?_); rintro e w45 ⟨rfl, hb⟩; have nRS := Aside0.mk (RS.out.below hb); have nHB := Aside0.mk (below_step HB.out hb); clear RS HB hb; have RS := nRS; clear nRS; have HB := nHB; clear nHB; )
        | (go_at_call 26; (with_reducible refine (spec_ReducedSet.sem t RS.out QR.out).mono ?_); rintro e w46 ⟨rfl, hb⟩; have nRS := Aside0.mk (RS.out.below hb); have nHB := Aside0.mk (below_step HB.out hb); clear RS HB hb; have RS := nRS; clear nRS; have HB := nHB; clear nHB; ))
      cases kr
      · go_wp2
        go_ret
        exact ⟨rfl, HB.out⟩
      · obtain ⟨q, y, e1, e2, hy, hql, hall⟩ := redSet_clean QR.out
        have HA := Aside0.mk hall
        have HSL : Aside0 (sl.length = q.length) := ⟨by rw [e1, ints_length]⟩
        have hs16 : sl.length ≤ 16 := by rw [e1, ints_length]; exact hql
        have E1 := Aside0.mk e1
        clear QR hall QI e1
        subst e2
        go_wp2
        go_loopw [375] (fun v375 wr => ∃ j : Nat, j ≤ sl.length ∧ v375 = .int .i64 (j : Int) ∧ Aside0 (Rd wr (.slice A5 sl.length c5) sl) ∧ Aside0 (Below W.heap.size W wr)) (fun v375 _ => sl.length - (intOf v375).toNat)
        case atStart => exact ⟨0, Nat.zero_le _, rfl, RS, HB⟩
        case round =>
          clear RS HB
          obtain ⟨j, hj, rfl, RS, HB⟩ := hrel
          by_cases hlt : j < sl.length
          · have hlq : j < q.length := by have h := HSL.out; omega
            obtain ⟨ad, e3, hc_⟩ := RS.out.cell (j : Int) (by omega) (by omega)
            subst e3
            clear hc_
            have hcell := RS.out.cellN j (by omega)
            have hrd : rd sl (j : Int) = (q[j] : Int) := by rw [E1.out]; exact ints_get q j hlq
            rw [hrd] at hcell
            clear hrd
            obtain ⟨hb0, hb1, hcl⟩ := HA.out q[j] (List.getElem_mem hlq)
            obtain ⟨b, hb⟩ : ∃ b, q[j] = b := ⟨_, rfl⟩
            rw [hb] at hcell hb0 hb1 hcl
            clear hb hlq
            obtain ⟨tb, htb⟩ : ∃ t, blen b - 1 = t := ⟨_, rfl⟩
            have htb16 : tb ≤ 16 := by
              have := blen_le (k := 16) (x := b) (by omega)
              omega
            rw [htb] at hcl
            have HTB := Aside0.mk htb
            have t3 := shr_form2 (show tb ≤ 64 by omega) hcl
            clear htb hcl
            go_wp2_with (go_at_call 16; (with_reducible refine (vTop_sem b (by omega) hb0 HTB.out).mono ?_); rintro e w47 ⟨rfl, hb⟩; (try clear hcell); have nRS := Aside0.mk (RS.out.below hb); have nHB := Aside0.mk (below_step HB.out hb); clear RS HB hb; have RS := nRS; clear nRS; have HB := nHB; clear nHB; )
            go_roundw
            case rel => exact ⟨j + 1, by omega, by go_num, RS, HB⟩
            case measure => simp [intOf]; omega
          · go_wp2
            go_ret
            exact ⟨rfl, HB.out⟩
theorem FnQuietPatterns_walk (a0 : Option Addr) (len0 cap0 : Nat) (z0 : List Int) (a1 : Option Addr) (len1 cap1 : Nat) (z1 : List Int) (w : World) (h0 : YtjoeakahfomckaaGreatGr.IsRow .u8 w a0 len0 cap0 z0) (y0 : len0 * 1 ≤ 140737488351232) (h1 : YtjoeakahfomckaaGreatGr.IsRow .u8 w a1 len1 cap1 z1) (y1 : len1 * 1 ≤ 140737488351232) :
    Calls Tryz.prog 3 #[.slice a0 len0 cap0, .slice a1 len1 cap1] w fun e w' => e = .returned (.bool true) ∧ Below w.heap.size w w' := by
  obtain ⟨l0, g0⟩ := Rb.row h0
  obtain ⟨l1, g1⟩ := Rb.row h1
  exact law_main g0 g1
end Go.Proofs.YtjoeakahfomckaaGreat.Draw
