/- The walk of FnLitOrbits: the call returns true and leaves memory as it was. Conditions: what its row lays. -/
import Derived.Test.YtjkijnggjjoheaaPFnLitOrbitsx
import Derived.Test.YtjkijnggjjoheaaQFnLitOrbits0
import Derived.Test.YtjkijnggjjoheaaQFnLitOrbits1
import Derived.Test.YtjkijnggjjoheaaM1
import Derived.Test.YtjkijnggjjoheaaM18
import Derived.WalkKit
import Derived.RowKit3
import Derived.Deep.QuietTactic
import Derived.BigQuiet
import Derived.Deep.DeepCutAuto
import Derived.Deep.CutBlock
import Derived.Deep.LoopGhost
import Derived.Outline
import Derived.Deep.DeepFit
import Derived.Test.YtjkijnggjjoheaaDFnLitOrbits0
import Derived.Test.YtjkijnggjjoheaaDFnLitOrbits1
import Derived.Test.YtjkijnggjjoheaaDFnLitOrbits2
namespace Go.Proofs.Ytjkijnggjjoheaa.Draw
open Go.RowKit Go.Proofs.Ytjkijnggjjoheaa.PFnLitOrbits Go.Proofs.YtjkijnggjjoheaaW.PrintWords Go.Proofs.YtjkijnggjjoheaaW.PrintLast Go.Proofs.YtjkijnggjjoheaaW.PrintMore Go.Proofs.YtjkijnggjjoheaaM Go.Proofs.Ytjkijnggjjoheaa.Pure
attribute [local go_sem] max2_int min2_int max_two min_two max_three min_three max_four min_four
set_option linter.unusedVariables false
set_option linter.unusedSimpArgs false
-- NOPURE spec_grPath spec_grCircle spec_grAdd
set_option maxRecDepth 100000 in
set_option maxHeartbeats 4000000 in
theorem law_main {W : World} {v v2 : Value} {l l2 : List Int} (h : Rb W v l) (h2 : Rb W v2 l2) : Calls Try.prog 3 #[v, v2] W fun e W' => e = .returned (.bool true) ∧ Below W.heap.size W W' := by
  have hu := Try.underlying26
  have HB := Aside0.mk (Below.refl W.heap.size W)
  have H1 := Aside0.mk h
  have H2 := Aside0.mk h2
  clear h h2
  go_enter Try.func3, Try.ntmps3
  go_upto_if 109 with (first
    | (go_at_call 5; refine (big_any H1.out H2.out).mono ?_; rintro e w1 ⟨nd, b, rfl, rfl⟩; have nHB := Aside0.mk (pw_below_drewN HB.out nd); clear HB; have HB := nHB; clear nHB)
    | (go_at_call 6; refine (DrawOrbitSizes_any (H1.out.below HB.out)).mono ?_; rintro e w2 ⟨u1, m1, o1, rfl, hr, hb⟩; obtain ⟨A1, c1, rfl⟩ := hr.slice; have R1 := Aside0.mk hr.rd; clear hr; obtain ⟨b1, hq_⟩ : ∃ r, (litOk m1) = r := ⟨_, rfl⟩; have LB := Aside0.mk hq_; clear hq_; obtain ⟨ys, hq_⟩ : ∃ r, (if b1 = true then ints (sortedSizes m1) else []) = r := ⟨_, rfl⟩; have EY := Aside0.mk hq_; clear hq_; obtain ⟨n1, hq_⟩ : ∃ r, (if b1 = true then ((starts m1).length : Int) else 0) = r := ⟨_, rfl⟩; have EN := Aside0.mk hq_; clear hq_; obtain ⟨zs, hq_⟩ : ∃ r, (if b1 = true then ints (starts m1) else []) = r := ⟨_, rfl⟩; have EZ := Aside0.mk hq_; clear hq_; have nHB := Aside0.mk (below_step HB.out hb); clear  HB hb; have HB := nHB; clear nHB; )
    | (go_at_call 7; (with_reducible refine (impl_OrbitSizes.sem o1 (R1.out.alloc _) LB.out EY.out).mono ?_); rintro e w3 ⟨u2, rfl, hr, hb⟩; obtain ⟨A2, c2, rfl⟩ := hr.slice; have R2 := Aside0.mk hr.rd; clear hr; have X1 := Aside0.mk (Gbox.new R1.out hb); have nHB := Aside0.mk (below_step HB.out (below_step (below_alloc (Below.refl _ _) _) hb)); clear  HB R1 hb; have HB := nHB; clear nHB; obtain ⟨hX10, hX11⟩ := X1.out.cells)
    | (go_at_call 8; (with_reducible refine (spec_OrbitSizes.sem o1 X1.out.rd LB.out EY.out).mono ?_); rintro e w4 ⟨u3, rfl, hr, hb⟩; obtain ⟨A3, c3, rfl⟩ := hr.slice; have R3 := Aside0.mk hr.rd; clear hr; have nX1 := Aside0.mk (X1.out.below hb); have nR2 := Aside0.mk (R2.out.below hb); have nHB := Aside0.mk (below_step HB.out hb); clear X1 R2 HB hb; (try clear hX10 hX11); have X1 := nX1; clear nX1; have R2 := nR2; clear nR2; have HB := nHB; clear nHB; obtain ⟨hX10, hX11⟩ := X1.out.cells)
    | (go_at_call 9; (with_reducible refine (impl_CountOrbits.sem o1 X1.out.rd LB.out EN.out).mono ?_); rintro e w5 ⟨rfl, hb⟩; have nX1 := Aside0.mk (X1.out.below hb); have nR2 := Aside0.mk (R2.out.below hb); have nR3 := Aside0.mk (R3.out.below hb); have nHB := Aside0.mk (below_step HB.out hb); clear X1 R2 R3 HB hb; (try clear hX10 hX11); have X1 := nX1; clear nX1; have R2 := nR2; clear nR2; have R3 := nR3; clear nR3; have HB := nHB; clear nHB; obtain ⟨hX10, hX11⟩ := X1.out.cells)
    | (go_at_call 10; (with_reducible refine (spec_CountOrbits.sem o1 X1.out.rd LB.out EN.out).mono ?_); rintro e w6 ⟨rfl, hb⟩; have nX1 := Aside0.mk (X1.out.below hb); have nR2 := Aside0.mk (R2.out.below hb); have nR3 := Aside0.mk (R3.out.below hb); have nHB := Aside0.mk (below_step HB.out hb); clear X1 R2 R3 HB hb; (try clear hX10 hX11); have X1 := nX1; clear nX1; have R2 := nR2; clear nR2; have R3 := nR3; clear nR3; have HB := nHB; clear nHB; obtain ⟨hX10, hX11⟩ := X1.out.cells)
    | (go_at_call 11; (with_reducible refine (impl_LeastLights.sem o1 X1.out.rd LB.out EZ.out).mono ?_); rintro e w7 ⟨u4, rfl, hr, hb⟩; obtain ⟨A4, c4, rfl⟩ := hr.slice; have R4 := Aside0.mk hr.rd; clear hr; have nX1 := Aside0.mk (X1.out.below hb); have nR2 := Aside0.mk (R2.out.below hb); have nR3 := Aside0.mk (R3.out.below hb); have nHB := Aside0.mk (below_step HB.out hb); clear X1 R2 R3 HB hb; (try clear hX10 hX11); have X1 := nX1; clear nX1; have R2 := nR2; clear nR2; have R3 := nR3; clear nR3; have HB := nHB; clear nHB; obtain ⟨hX10, hX11⟩ := X1.out.cells)
    | (go_at_call 12; (with_reducible refine (spec_LeastLights.sem o1 X1.out.rd LB.out EZ.out).mono ?_); rintro e w8 ⟨u5, rfl, hr, hb⟩; obtain ⟨A5, c5, rfl⟩ := hr.slice; have R5 := Aside0.mk hr.rd; clear hr; have nX1 := Aside0.mk (X1.out.below hb); have nR2 := Aside0.mk (R2.out.below hb); have nR3 := Aside0.mk (R3.out.below hb); have nR4 := Aside0.mk (R4.out.below hb); have nHB := Aside0.mk (below_step HB.out hb); clear X1 R2 R3 R4 HB hb; (try clear hX10 hX11); have X1 := nX1; clear nX1; have R2 := nR2; clear nR2; have R3 := nR3; clear nR3; have R4 := nR4; clear nR4; have HB := nHB; clear nHB; obtain ⟨hX10, hX11⟩ := X1.out.cells)
    | (go_at_call 13; (with_reducible refine (hSame_sem R2.out R3.out true (by simp)).mono ?_); rintro e w9 ⟨rfl, hb⟩; have nX1 := Aside0.mk (X1.out.below hb); have nR2 := Aside0.mk (R2.out.below hb); have nR3 := Aside0.mk (R3.out.below hb); have nR4 := Aside0.mk (R4.out.below hb); have nR5 := Aside0.mk (R5.out.below hb); have nHB := Aside0.mk (below_step HB.out hb); clear X1 R2 R3 R4 R5 HB hb; (try clear hX10 hX11); have X1 := nX1; clear nX1; have R2 := nR2; clear nR2; have R3 := nR3; clear nR3; have R4 := nR4; clear nR4; have R5 := nR5; clear nR5; have HB := nHB; clear nHB; obtain ⟨hX10, hX11⟩ := X1.out.cells)
    | (go_at_call 13; (with_reducible refine (hSame_sem R4.out R5.out true (by simp)).mono ?_); rintro e w10 ⟨rfl, hb⟩; have nX1 := Aside0.mk (X1.out.below hb); have nR2 := Aside0.mk (R2.out.below hb); have nR3 := Aside0.mk (R3.out.below hb); have nR4 := Aside0.mk (R4.out.below hb); have nR5 := Aside0.mk (R5.out.below hb); have nHB := Aside0.mk (below_step HB.out hb); clear X1 R2 R3 R4 R5 HB hb; (try clear hX10 hX11); have X1 := nX1; clear nX1; have R2 := nR2; clear nR2; have R3 := nR3; clear nR3; have R4 := nR4; clear nR4; have R5 := nR5; clear nR5; have HB := nHB; clear nHB; obtain ⟨hX10, hX11⟩ := X1.out.cells))
  · go_ret
    exact ⟨rfl, HB.out⟩
  go_cut [] (fun wc => Aside0 (Below W.heap.size W wc))
  case first =>
    cases b1
    · go_wp2
      go_meet
      case rel => exact HB
    · have hy := EY.out
      have hn := EN.out
      have hz := EZ.out
      simp only [if_true] at hy hn hz
      subst hy hn hz
      obtain ⟨hG, hn9⟩ := litOk_of LB.out
      have hS1 := sorted_sum m1 hG
      have hp : wrap64 ((2 : Int) ^ m1.length) = 2 ^ m1.length := by
        have h1 := pow512 hn9
        have h2 : (2 : Int) ^ m1.length = ((2 ^ m1.length : Nat) : Int) := by simp
        rw [h2]
        generalize 2 ^ m1.length = q at *
        exact wrap_id (by omega) (by omega)
      have t1 : (((ints (sortedSizes m1)).length : Int) != ((starts m1).length : Int)) = false := by simp [ints_length, sorted_len]
      have t2 : (((ints (starts m1)).length : Int) != ((starts m1).length : Int)) = false := by simp [ints_length]
      obtain ⟨rs, hrs⟩ := sorted_head m1 hG
      obtain ⟨rz, hrz⟩ := starts_head m1
      have p1 : 0 < (ints (sortedSizes m1)).length := by rw [hrs]; simp [ints]
      have p2 : 0 < (ints (starts m1)).length := by rw [hrz]; simp [ints]
      obtain ⟨ad2, rfl, k2⟩ := R2.out.cell0 p1 (x := 1) (by rw [hrs]; rfl)
      obtain ⟨ad4, rfl, k4⟩ := R4.out.cell0 p2 (x := 0) (by rw [hrz]; rfl)
      clear hrs hrz
      go_wp2
      go_quiet ((go_at_call 14; exact hSum_q R2.out (by have := pow512 hn9; omega) _))
      have nR2 := Aside0.mk (R2.out.dn nq)
      have nR4 := Aside0.mk (R4.out.dn nq)
      have nHB := Aside0.mk (pw_below_drewN HB.out nq)
      clear R2 R4 HB R3 R5 X1 hX10 hX11 k2 k4
      have R2 := nR2
      have R4 := nR4
      have HB := nHB
      clear nR2 nR4 nHB
      go_wp2
      go_loopw [18] (fun v18 wr => ∃ j : Nat, j < (ints (sortedSizes m1)).length ∧ v18 = .int .i64 ((j + 1 : Nat) : Int) ∧ Aside0 (Rd wr (.slice (some ad2) (ints (sortedSizes m1)).length c2) (ints (sortedSizes m1))) ∧ Aside0 (Rd wr (.slice (some ad4) (ints (starts m1)).length c4) (ints (starts m1))) ∧ Aside0 (Below W.heap.size W wr)) (fun v18 _ => (ints (sortedSizes m1)).length - (intOf v18).toNat)
      case atStart => exact ⟨0, p1, rfl, R2, R4, HB⟩
      case round =>
        clear R2 R4 HB
        obtain ⟨j, hj, rfl, R2, R4, HB⟩ := hrel
        have hl2 := R2.out.len
        have hlen : (ints (sortedSizes m1)).length = (ints (starts m1)).length := by simp [ints_length, sorted_len]
        by_cases hlt : j + 1 < (ints (sortedSizes m1)).length
        · have s1 := R2.out.cellN j hj
          have s2 := R2.out.cellN (j + 1) hlt
          have s3 := R4.out.cellN j (by omega)
          have s4 := R4.out.cellN (j + 1) (by omega)
          have l2 : j + 1 < (ints (starts m1)).length := by omega
          have l3 : j < (ints (starts m1)).length := by omega
          have s2b : wr.cell? ⟨ad2.block, ad2.off + (j + 1), none⟩ = some (.int .i64 (rd (ints (sortedSizes m1)) ((j + 1 : Nat) : Int))) := by simpa [Addr.add] using s2
          have s4b : wr.cell? ⟨ad4.block, ad4.off + (j + 1), none⟩ = some (.int .i64 (rd (ints (starts m1)) ((j + 1 : Nat) : Int))) := by simpa [Addr.add] using s4
          have g1 : decide (rd (ints (sortedSizes m1)) ((j + 1 : Nat) : Int) < rd (ints (sortedSizes m1)) (j : Int)) = false := by
            rw [ints_length] at hj hlt
            rw [ints_get _ _ hlt, ints_get _ _ hj]
            have := List.pairwise_iff_getElem.1 (sorted_up m1) j (j + 1) hj hlt (by omega)
            simp; omega
          have g2 : decide (rd (ints (starts m1)) ((j + 1 : Nat) : Int) ≤ rd (ints (starts m1)) (j : Int)) = false := by
            rw [ints_length] at l2 l3
            rw [ints_get _ _ l2, ints_get _ _ l3]
            have := List.pairwise_iff_getElem.1 (starts_up m1) j (j + 1) l3 l2 (by omega)
            simp; omega
          have ej : ((j + 1 : Nat) : Int) = (j : Int) + 1 := by omega
          rw [ej] at g1 g2 s2b s4b
          clear hlen ej
          go_wp2
          go_quiet (fail)
          go_wp2
          go_roundw
          case rel => exact ⟨j + 1, hlt, by go_num, ⟨R2.out.dn _⟩, ⟨R4.out.dn _⟩, ⟨pw_below_drewN HB.out _⟩⟩
          case measure => simp [intOf]; omega
        · go_wp2
          go_meet
          case rel => exact HB
  case rest =>
    have HB := hcut
    clear X1 hX10 hX11 R2 R3 R4 R5 hcut
    go_upto_if 222 with (first
      | (go_at_call 15; (with_reducible refine (DrawFewestLit_any (H2.out.below HB.out)).mono ?_); rintro e w11 ⟨u6, m2, o2, s2, rfl, hr, hb⟩; obtain ⟨A6, c6, rfl⟩ := hr.slice; have R6 := Aside0.mk hr.rd; clear hr; obtain ⟨b2, hq_⟩ : ∃ r, (setOk m2 s2) = r := ⟨_, rfl⟩; have SB := Aside0.mk hq_; clear hq_; obtain ⟨xf, hq_⟩ : ∃ r, (if b2 = true then ((fewGo (orbitOf m2 false s2.toNat) m2.length : Nat) : Int) else 0) = r := ⟨_, rfl⟩; have EF := Aside0.mk hq_; clear hq_; obtain ⟨os, hq_⟩ : ∃ r, (if b2 = true then ints (orbitOf m2 false s2.toNat) else []) = r := ⟨_, rfl⟩; have EO := Aside0.mk hq_; clear hq_; have nHB := Aside0.mk (below_step HB.out hb); clear  HB hb; have HB := nHB; clear nHB; )
      | (go_at_call 16; (with_reducible refine (impl_FewestLit.sem o2 s2 (R6.out.alloc _) SB.out EF.out).mono ?_); rintro e w12 ⟨rfl, hb⟩; have X2 := Aside0.mk (Gbox.new R6.out hb); have nHB := Aside0.mk (below_step HB.out (below_step (below_alloc (Below.refl _ _) _) hb)); clear  HB R6 hb; have HB := nHB; clear nHB; obtain ⟨hX20, hX21⟩ := X2.out.cells)
      | (go_at_call 17; (with_reducible refine (spec_FewestLit.sem o2 s2 X2.out.rd SB.out EF.out).mono ?_); rintro e w13 ⟨rfl, hb⟩; have nX2 := Aside0.mk (X2.out.below hb); have nHB := Aside0.mk (below_step HB.out hb); clear X2 HB hb; (try clear hX20 hX21); have X2 := nX2; clear nX2; have HB := nHB; clear nHB; obtain ⟨hX20, hX21⟩ := X2.out.cells)
      | (go_at_call 18; (with_reducible refine (impl_ReachOf.sem o2 s2 X2.out.rd SB.out EO.out).mono ?_); rintro e w14 ⟨u7, rfl, hr, hb⟩; obtain ⟨A7, c7, rfl⟩ := hr.slice; have R7 := Aside0.mk hr.rd; clear hr; have nX2 := Aside0.mk (X2.out.below hb); have nHB := Aside0.mk (below_step HB.out hb); clear X2 HB hb; (try clear hX20 hX21); have X2 := nX2; clear nX2; have HB := nHB; clear nHB; obtain ⟨hX20, hX21⟩ := X2.out.cells)
      | (go_at_call 19; (with_reducible refine (spec_ReachOf.sem o2 s2 X2.out.rd SB.out EO.out).mono ?_); rintro e w15 ⟨u8, rfl, hr, hb⟩; obtain ⟨A8, c8, rfl⟩ := hr.slice; have R8 := Aside0.mk hr.rd; clear hr; have nX2 := Aside0.mk (X2.out.below hb); have nR7 := Aside0.mk (R7.out.below hb); have nHB := Aside0.mk (below_step HB.out hb); clear X2 R7 HB hb; (try clear hX20 hX21); have X2 := nX2; clear nX2; have R7 := nR7; clear nR7; have HB := nHB; clear nHB; obtain ⟨hX20, hX21⟩ := X2.out.cells)
      | (go_at_call 13; (with_reducible refine (hSame_sem R7.out R8.out true (by simp)).mono ?_); rintro e w16 ⟨rfl, hb⟩; have nX2 := Aside0.mk (X2.out.below hb); have nR7 := Aside0.mk (R7.out.below hb); have nR8 := Aside0.mk (R8.out.below hb); have nHB := Aside0.mk (below_step HB.out hb); clear X2 R7 R8 HB hb; (try clear hX20 hX21); have X2 := nX2; clear nX2; have R7 := nR7; clear nR7; have R8 := nR8; clear nR8; have HB := nHB; clear nHB; obtain ⟨hX20, hX21⟩ := X2.out.cells))
    cases b2
    · go_wp2
      go_ret
      exact ⟨rfl, HB.out⟩
    · have hf := EF.out
      have ho := EO.out
      simp only [if_true] at hf ho
      subst hf ho
      obtain ⟨hG, hn9, hs⟩ := setOk_of SB.out
      obtain ⟨hs0, hs1, hs2⟩ := inSet_lt hs
      obtain ⟨O, hO⟩ : ∃ O, orbitOf m2 false s2.toNat = O := ⟨_, rfl⟩
      obtain ⟨fw, hfw⟩ : ∃ fw, fewGo O m2.length = fw := ⟨_, rfl⟩
      rw [hO] at R7 R8
      have HO := Aside0.mk hO
      have HF := Aside0.mk hfw
      have HS := Aside0.mk hs2
      simp only [hO, hfw]
      clear hO hfw hs2 EF EO R8 SB
      have LB := Aside0.mk (show litOk m2 = true by simp only [litOk, Bool.and_eq_true, decide_eq_true_eq]; exact ⟨(good_iff m2).2 hG, hn9⟩)
      go_wp2
      go_loopw [29, 225] (fun v29 v225 wr => ∃ i : Nat, i ≤ (ints O).length ∧ v225 = .int .i64 (i : Int) ∧ v29 = .bool ((O.take i).any fun s => pop s == fw) ∧ Aside0 (Gbox wr w11.heap.size (.slice A6 m2.length c6) o2 m2) ∧ Aside0 (Rd wr (.slice A7 (ints O).length c7) (ints O)) ∧ Aside0 (Below W.heap.size W wr)) (fun _ v225 _ => (ints O).length - (intOf v225).toNat)
      case atStart => exact ⟨0, Nat.zero_le _, rfl, rfl, X2, R7, HB⟩
      case round =>
        clear X2 R7 HB hX20 hX21
        obtain ⟨i, hi, rfl, rfl, X2, R7, HB⟩ := hrel
        have hl7 := R7.out.len
        obtain ⟨fd, hfd⟩ : ∃ fd, ((O.take i).any fun s => pop s == fw) = fd := ⟨_, rfl⟩
        have FD := Aside0.mk hfd
        rw [hfd]
        clear hfd
        by_cases hlt : i < (ints O).length
        · obtain ⟨ad, rfl, hcell0⟩ := R7.out.cell (i : Int) (by omega) (by omega)
          have hio : i < O.length := by rw [ints_length] at hlt; exact hlt
          have hcell : wr.cell? (ad.add i) = some (.int .i64 (O[i] : Int)) := by rw [← ints_get O i hio]; simpa using hcell0
          have hol : O[i] < 2 ^ m2.length := orbitOf_lt m2 false s2.toNat O[i] (by rw [HO.out]; exact List.getElem_mem _)
          have hge : decide ((pop O[i] : Int) < (fw : Int)) = false := by
            have := fewGo_all O m2.length O[i] (List.getElem_mem _)
            rw [HF.out] at this
            simp; omega
          have hge2 : decide (pop O[i] < fw) = false := by simp at hge ⊢; omega
          have HOL := Aside0.mk hol
          have HN := Aside0.mk (show (O.take (i + 1)).any (fun s => pop s == fw) = (fd || (pop O[i] == fw)) by rw [List.take_succ_eq_append_getElem hio, List.any_append, FD.out]; simp)
          clear hol hcell0
          have tok1 : True := trivial
          cases fd
          · go_wp2_with (go_at_call 20; (with_reducible refine (hSize_sem O[i] m2.length (by omega) HOL.out).mono ?_); rintro e w17 ⟨rfl, hb⟩; (try clear hcell); have nX2 := Aside0.mk (X2.out.below hb); have nR7 := Aside0.mk (R7.out.below hb); have nHB := Aside0.mk (below_step HB.out hb); clear X2 R7 HB hb; (try clear hX20 hX21); have X2 := nX2; clear nX2; have R7 := nR7; clear nR7; have HB := nHB; clear nHB; obtain ⟨hX20, hX21⟩ := X2.out.cells)
            go_roundw
            case rel => exact ⟨i + 1, by omega, by go_num, by rw [HN.out, Bool.false_or, natbeq], X2, R7, HB⟩
            case measure => simp [intOf]; omega
          · go_wp2_with (go_at_call 20; (with_reducible refine (hSize_sem O[i] m2.length (by omega) HOL.out).mono ?_); rintro e w17 ⟨rfl, hb⟩; (try clear hcell); have nX2 := Aside0.mk (X2.out.below hb); have nR7 := Aside0.mk (R7.out.below hb); have nHB := Aside0.mk (below_step HB.out hb); clear X2 R7 HB hb; (try clear hX20 hX21); have X2 := nX2; clear nX2; have R7 := nR7; clear nR7; have HB := nHB; clear nHB; obtain ⟨hX20, hX21⟩ := X2.out.cells)
            go_roundw
            case rel => exact ⟨i + 1, by omega, by go_num, by rw [HN.out]; rfl, X2, R7, HB⟩
            case measure => simp [intOf]; omega
        · have hio : i = O.length := by rw [ints_length] at hlt hi; omega
          have hfd : fd = true := by
            rw [← FD.out, hio, List.take_length, List.any_eq_true]
            obtain ⟨x, hx, h⟩ := few_found m2 hG hs1
            rw [HO.out] at hx h
            exact ⟨x, hx, by rw [h, HF.out]; simp⟩
          subst hfd
          obtain ⟨a, r, hor, hst⟩ := orbit_start m2 hG hs1
          have hself := orbit_self m2 hG _ hs1
          rw [HO.out] at hor hself
          have hp : 0 < (ints O).length := by rw [hor]; simp [ints]
          have HA := Aside0.mk (show rd (ints O) 0 = (a : Int) by rw [hor]; rfl)
          obtain ⟨ad, rfl, k7⟩ := R7.out.cell0 hp HA.out
          obtain ⟨hX20, hX21⟩ := X2.out.cells
          have C1 := Aside0.mk (show (ints O).contains s2 = true by rw [HS.out, ints_contains]; exact List.contains_iff_mem.2 hself)
          have C2 := Aside0.mk (show (ints (starts m2)).contains (a : Int) = true by rw [ints_contains]; exact List.contains_iff_mem.2 hst)
          clear hor hself hst
          go_wp2_with (first
            | (go_at_call 11; (with_reducible refine (impl_LeastLights.sem o2 X2.out.rd LB.out rfl).mono ?_); rintro e w18 ⟨u9, rfl, hr, hb⟩; simp only [if_true] at hr; obtain ⟨A9, c9, rfl⟩ := hr.slice; have R9 := Aside0.mk hr.rd; clear hr k7; have nX2 := Aside0.mk (X2.out.below hb); have nR7 := Aside0.mk (R7.out.below hb); have nHB := Aside0.mk (below_step HB.out hb); clear X2 R7 HB hb; (try clear hX20 hX21); have X2 := nX2; clear nX2; have R7 := nR7; clear nR7; have HB := nHB; clear nHB; obtain ⟨hX20, hX21⟩ := X2.out.cells; obtain ⟨_, e7, k7⟩ := R7.out.cell0 hp HA.out; (injection e7 with e7); subst e7)
            | (go_at_call 21; (with_reducible refine (hHas_sem R7.out s2 true C1.out).mono ?_); rintro e w19 ⟨rfl, hb⟩; clear k7; have nX2 := Aside0.mk (X2.out.below hb); have nR7 := Aside0.mk (R7.out.below hb); have nR9 := Aside0.mk (R9.out.below hb); have nHB := Aside0.mk (below_step HB.out hb); clear X2 R7 R9 HB hb; (try clear hX20 hX21); have X2 := nX2; clear nX2; have R7 := nR7; clear nR7; have R9 := nR9; clear nR9; have HB := nHB; clear nHB; obtain ⟨hX20, hX21⟩ := X2.out.cells; obtain ⟨_, e7, k7⟩ := R7.out.cell0 hp HA.out; (injection e7 with e7); subst e7)
            | (go_at_call 21; (with_reducible refine (hHas_sem R9.out _ true C2.out).mono ?_); rintro e w20 ⟨rfl, hb⟩; clear k7; have nX2 := Aside0.mk (X2.out.below hb); have nR7 := Aside0.mk (R7.out.below hb); have nR9 := Aside0.mk (R9.out.below hb); have nHB := Aside0.mk (below_step HB.out hb); clear X2 R7 R9 HB hb; (try clear hX20 hX21); have X2 := nX2; clear nX2; have R7 := nR7; clear nR7; have R9 := nR9; clear nR9; have HB := nHB; clear nHB; obtain ⟨hX20, hX21⟩ := X2.out.cells))
          go_ret
          exact ⟨rfl, HB.out⟩
theorem FnLitOrbits_walk (a0 : Option Addr) (len0 cap0 : Nat) (z0 : List Int) (a1 : Option Addr) (len1 cap1 : Nat) (z1 : List Int) (w : World) (h0 : YtjkijnggjjoheaaGr.IsRow .u8 w a0 len0 cap0 z0) (y0 : len0 * 1 ≤ 140737488351232) (h1 : YtjkijnggjjoheaaGr.IsRow .u8 w a1 len1 cap1 z1) (y1 : len1 * 1 ≤ 140737488351232) :
    Calls Try.prog 3 #[.slice a0 len0 cap0, .slice a1 len1 cap1] w fun e w' => e = .returned (.bool true) ∧ Below w.heap.size w w' := by
  obtain ⟨l0, g0⟩ := Rb.row h0
  obtain ⟨l1, g1⟩ := Rb.row h1
  exact law_main g0 g1
end Go.Proofs.Ytjkijnggjjoheaa.Draw
