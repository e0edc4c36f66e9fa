/- The walk of FnFormStays: the call returns true and leaves memory as it was. Conditions: what its row lays. -/
import Derived.Test.YtjocpjjimhefjaaGreatPFnFormStaysx
import Derived.Test.YtjocpjjimhefjaaGreatQFnFormStays0
import Derived.Test.YtjocpjjimhefjaaGreatQFnFormStays1
import Derived.Test.YtjocpjjimhefjaaGreatM1
import Derived.Test.YtjocpjjimhefjaaGreatM20
import Derived.WalkKit
import Derived.RowKit3
import Derived.Deep.QuietTactic
import Derived.BigQuiet
import Derived.Deep.DeepCutAuto
import Derived.Deep.CutBlock
import Derived.Deep.LoopGhost
import Derived.Outline
import Derived.Deep.DeepFit
import Derived.Test.YtjocpjjimhefjaaGreatDFnFormStays0
import Derived.Test.YtjocpjjimhefjaaGreatDFnFormStays1
import Derived.Test.YtjocpjjimhefjaaGreatDFnFormStays2
import Derived.Test.YtjocpjjimhefjaaGreatDFnFormStays3
namespace Go.Proofs.YtjocpjjimhefjaaGreat.Draw
open Go.RowKit Go.Proofs.YtjocpjjimhefjaaGreat.PFnFormStays Go.Proofs.YtjocpjjimhefjaaGreatW.PrintWords Go.Proofs.YtjocpjjimhefjaaGreatW.PrintLast Go.Proofs.YtjocpjjimhefjaaGreatW.PrintMore Go.Proofs.YtjocpjjimhefjaaGreatM Go.Proofs.YtjocpjjimhefjaaGreat.Pure
attribute [local go_sem] max2_int min2_int max_two min_two max_three min_three max_four min_four
set_option linter.unusedVariables false
set_option linter.unusedSimpArgs false
theorem stays_set {l : List Int} {s i x : Int} (h : reflWord l s [i] = (x, true)) : ∃ (f lg af p : Int) (k : Bool), good l = true ∧ reflWord l x [i] = (s, true) ∧ formR l s = (f, true) ∧ formR l x = (f, true) ∧ pressAll l false 0 s = (lg, true) ∧ pressAll l false 0 x = (af, true) ∧ litWord l lg [i] = (p, k) ∧ (k = true → p = af) ∧ (k = false → af = lg) := by
  obtain ⟨hG, hn, hs, h0, h1, hx⟩ := reflWord_one h
  obtain ⟨h2, h3, h4, h5, h6⟩ := reflWord_back h
  have hi : i = ((i.toNat : Nat) : Int) := by omega
  have ha := eff_lt l false hG s.toNat
  rcases e : litWord l (eff l false s.toNat : Int) [((i.toNat : Nat) : Int)] with ⟨p, k⟩
  have hp := lit_press hG hn ha (by omega) e
  rw [← hi] at e
  exact ⟨_, _, _, p, k, (good_iff l).2 hG, h2, h3, h4, h5, h6, e, hp.1, fun hk => by rw [hp.2 hk]⟩
theorem stays_orbit {l : List Int} {s : Int} {os : List Int} (hb : setOk l s = true) (ho : ints (orbitOf l true s.toNat) = os) : ∃ f : Int, formR l s = (f, true) ∧ os.contains s = true ∧ ∀ j : Nat, j < os.length → formR l (rd os (j : Int)) = (f, true) := by
  have hc := hb
  obtain ⟨hG, hn, hs⟩ := setOk_of hb
  obtain ⟨h0, h1, h2⟩ := inSet_lt hs
  refine ⟨formOf l s, ?_, ?_, ?_⟩
  · exact if_pos hc
  · rw [← ho, h2, ints_contains]
    exact List.contains_iff_mem.2 ((mem_orbitR l hG s.toNat s.toNat h1).2 (orbL_self _ _ _))
  · intro j hj
    have hm := rd_mem os (j : Int) (by omega) (by omega)
    rw [← ho] at hm
    obtain ⟨x, hx, e⟩ := List.mem_map.1 hm
    rw [ho] at e
    rw [← e]
    obtain ⟨g1, g2⟩ := form_orbit hG h1 x hx
    rw [← h2] at g2
    unfold formR
    rw [g2]
    exact if_pos (by unfold setOk at hc; simp only [Bool.and_eq_true] at hc ⊢; exact ⟨hc.1, inSet_of g1⟩)
theorem stays_lights {l : List Int} {a f : Int} (h : lightsR l a = (f, true)) : setOk l a = true ∧ ∀ os, ints (orbitOf l false a.toNat) = os → ∀ j : Nat, j < os.length → lightsR l (rd os (j : Int)) = (f, true) := by
  have hb : setOk l a = true := by
    unfold lightsR at h
    split at h
    · next e => exact e
    · cases h
  obtain ⟨hG, hn, hs⟩ := setOk_of hb
  obtain ⟨h0, h1, h2⟩ := inSet_lt hs
  refine ⟨hb, ?_⟩
  intro os ho j hj
  have hm := rd_mem os (j : Int) (by omega) (by omega)
  rw [← ho] at hm
  obtain ⟨x, hx, e⟩ := List.mem_map.1 hm
  rw [ho] at e
  rw [← e]
  have := lights_orbit hG h1 x hx
  rw [← h2, h] at this
  exact this
theorem spread_sum {l : List Int} {z o : Int} (h : formSpread l = (z, o, true)) : (wrap64 (z + o) != wrap64 (2 ^ min l.length 64)) = false := by
  obtain ⟨h1, h2, h3⟩ := formSpread_sum h
  rw [h1, pow_cast, Nat.min_eq_left (by omega)]
  simp
set_option maxRecDepth 100000 in
set_option maxHeartbeats 4000000 in
theorem law_main {W : World} {v v2 : Value} {l l2 : List Int} (h : Rb W v l) (h2 : Rb W v2 l2) : Calls Tryz.prog 3 #[v, v2] W fun e W' => e = .returned (.bool true) ∧ Below W.heap.size W W' := by
  have hu := Tryz.underlying26
  have HB := Aside0.mk (Below.refl W.heap.size W)
  have H1 := Aside0.mk h
  have H2 := Aside0.mk h2
  clear h h2
  go_enter Tryz.func3, Tryz.ntmps3
  go_upto_if 101 with (first
    | (go_at_call 4; refine (big_any H1.out H2.out).mono ?_; rintro e w1 ⟨nd, b, rfl, rfl⟩; have nHB := Aside0.mk (pw_below_drewN HB.out nd); clear HB; have HB := nHB; clear nHB)
    | (go_at_call 5; (with_reducible refine (DrawReflectSet_any (H1.out.below HB.out)).mono ?_); rintro e w2 ⟨u1, m1, o1, s1, i1, rfl, hr, hb⟩; obtain ⟨A1, c1, rfl⟩ := hr.slice; have R1 := Aside0.mk hr.rd; clear hr; obtain ⟨⟨x1, k1⟩, hq⟩ : ∃ r, (reflWord m1 s1 [i1]) = r := ⟨_, rfl⟩; have Q1 := Aside0.mk hq; clear hq; have nHB := Aside0.mk (below_step HB.out hb); clear  HB hb; have HB := nHB; clear nHB; )
    | (go_at_call 6; (with_reducible refine (impl_ReflectSet.sem o1 s1 i1 (R1.out.alloc _) Q1.out).mono ?_); rintro e w3 ⟨rfl, hb⟩; have X1 := Aside0.mk (Gbox.new R1.out hb); have nHB := Aside0.mk (below_step HB.out (below_step (below_alloc (Below.refl _ _) _) hb)); clear  HB R1 hb; have HB := nHB; clear nHB; obtain ⟨hX10, hX11⟩ := X1.out.cells)
    | (go_at_call 7; (with_reducible refine (spec_ReflectSet.sem o1 s1 i1 X1.out.rd Q1.out).mono ?_); rintro e w4 ⟨rfl, hb⟩; have nX1 := Aside0.mk (X1.out.below hb); have nHB := Aside0.mk (below_step HB.out hb); clear X1 HB hb; (try clear hX10 hX11); have X1 := nX1; clear nX1; have HB := nHB; clear nHB; obtain ⟨hX10, hX11⟩ := X1.out.cells))
  · go_ret
    exact ⟨rfl, HB.out⟩
  go_cut [] (fun wc => Aside0 (Below W.heap.size W wc))
  case first => as_aux_lemma =>
    cases k1
    · go_wp2
      go_meet
      case rel => exact HB
    · obtain ⟨f1, lg, af, p1, kp, hg, hq1, hq2, hq3, hq4, hq5, hq6, hq7, hq8⟩ := stays_set Q1.out
      have P0 := Aside0.mk hg
      have P1 := Aside0.mk hq1
      have P2 := Aside0.mk hq2
      have P3 := Aside0.mk hq3
      have P4 := Aside0.mk hq4
      have P5 := Aside0.mk hq5
      have P6 := Aside0.mk hq6
      clear hg hq1 hq2 hq3 hq4 hq5 hq6
      have hk : kp = true ∧ p1 = af ∨ kp = false ∧ af = lg := by
        cases kp
        · exact .inr ⟨rfl, hq8 rfl⟩
        · exact .inl ⟨rfl, hq7 rfl⟩
      clear hq7 hq8
      rcases hk with ⟨rfl, rfl⟩ | ⟨rfl, rfl⟩
      all_goals
        go_wp2_with (first
          | (go_at_call 6; (with_reducible refine (impl_ReflectSet.sem o1 x1 i1 X1.out.rd P1.out).mono ?_); rintro e w5 ⟨rfl, hb⟩; have nX1 := Aside0.mk (X1.out.below hb); have nHB := Aside0.mk (below_step HB.out hb); clear X1 HB hb; (try clear hX10 hX11); have X1 := nX1; clear nX1; have HB := nHB; clear nHB; obtain ⟨hX10, hX11⟩ := X1.out.cells)
          | (go_at_call 8; (with_reducible refine (impl_FormOf.sem o1 s1 X1.out.rd P2.out).mono ?_); rintro e w6 ⟨rfl, hb⟩; have nX1 := Aside0.mk (X1.out.below hb); have nHB := Aside0.mk (below_step HB.out hb); clear X1 HB hb; (try clear hX10 hX11); have X1 := nX1; clear nX1; have HB := nHB; clear nHB; obtain ⟨hX10, hX11⟩ := X1.out.cells; clear P2)
          | (go_at_call 8; (with_reducible refine (impl_FormOf.sem o1 x1 X1.out.rd P3.out).mono ?_); rintro e w7 ⟨rfl, hb⟩; have nX1 := Aside0.mk (X1.out.below hb); have nHB := Aside0.mk (below_step HB.out hb); clear X1 HB hb; (try clear hX10 hX11); have X1 := nX1; clear nX1; have HB := nHB; clear nHB; obtain ⟨hX10, hX11⟩ := X1.out.cells)
          | (go_at_call 9; (with_reducible refine (WithOwn_any o1 false X1.out.rd P0.out).mono ?_); rintro e w8 ⟨u9, o9, rfl, hr0, hb⟩; have hr1 := hr0 (Eq.refl true); clear hr0; obtain ⟨h9, hr⟩ := hr1; subst h9; obtain ⟨A9, c9, rfl⟩ := hr.slice; have R9 := Aside0.mk hr.rd; clear hr; have nX1 := Aside0.mk (X1.out.below hb); have nHB := Aside0.mk (below_step HB.out hb); clear X1 HB hb; (try clear hX10 hX11); have X1 := nX1; clear nX1; have HB := nHB; clear nHB; obtain ⟨hX10, hX11⟩ := X1.out.cells)
          | (go_at_call 10; (with_reducible refine (impl_EffectOf.sem false s1 (R9.out.alloc _) P4.out).mono ?_); rintro e w9 ⟨rfl, hb⟩; have X9 := Aside0.mk (Gbox.new R9.out hb); have nX1 := Aside0.mk (X1.out.below (below_step (below_alloc (Below.refl _ _) _) hb)); have nHB := Aside0.mk (below_step HB.out (below_step (below_alloc (Below.refl _ _) _) hb)); clear X1 HB R9 hb; (try clear hX10 hX11); have X1 := nX1; clear nX1; have HB := nHB; clear nHB; obtain ⟨hX90, hX91⟩ := X9.out.cells; obtain ⟨hX10, hX11⟩ := X1.out.cells)
          | (go_at_call 10; (with_reducible refine (impl_EffectOf.sem false x1 X9.out.rd P5.out).mono ?_); rintro e w10 ⟨rfl, hb⟩; have nX1 := Aside0.mk (X1.out.below hb); have nX9 := Aside0.mk (X9.out.below hb); have nHB := Aside0.mk (below_step HB.out hb); clear X1 X9 HB hb; (try clear hX10 hX11); (try clear hX90 hX91); have X1 := nX1; clear nX1; have X9 := nX9; clear nX9; have HB := nHB; clear nHB; obtain ⟨hX10, hX11⟩ := X1.out.cells; obtain ⟨hX90, hX91⟩ := X9.out.cells)
          | (go_at_call 11; (with_reducible refine (impl_LitPress.sem o1 _ i1 X1.out.rd P6.out).mono ?_); rintro e w11 ⟨rfl, hb⟩; have nX1 := Aside0.mk (X1.out.below hb); have nHB := Aside0.mk (below_step HB.out hb); clear X1 HB hb; (try clear hX10 hX11); have X1 := nX1; clear nX1; have HB := nHB; clear nHB; obtain ⟨hX10, hX11⟩ := X1.out.cells))
        go_meet
        case rel => exact HB
  case rest => as_aux_lemma =>
    have HB := hcut
    clear X1 hX10 hX11 hcut Q1
    go_upto_region 26 with (first
      | (go_at_call 12; (with_reducible refine (DrawReflectWord_any (H2.out.below HB.out)).mono ?_); rintro e w12 ⟨u2, m2, o2, s2, u3, wd, rfl, hr, hr2, hb⟩; obtain ⟨A2, c2, rfl⟩ := hr.slice; obtain ⟨A3, c3, rfl⟩ := hr2.slice; have R2 := Aside0.mk hr.rd; have R3 := Aside0.mk hr2.rd; clear hr hr2; obtain ⟨⟨x2, k2⟩, hq⟩ : ∃ r, (reflWord m2 s2 wd) = r := ⟨_, rfl⟩; have Q2 := Aside0.mk hq; clear hq; have nHB := Aside0.mk (below_step HB.out hb); clear  HB hb; have HB := nHB; clear nHB; )
      | (go_at_call 13; (with_reducible refine (impl_ReflectWord.sem o2 s2 (R2.out.alloc _) (R3.out.alloc _) Q2.out).mono ?_); rintro e w13 ⟨rfl, hb⟩; have X2 := Aside0.mk (Gbox.new R2.out hb); have nR3 := Aside0.mk (R3.out.below (below_step (below_alloc (Below.refl _ _) _) hb)); have nHB := Aside0.mk (below_step HB.out (below_step (below_alloc (Below.refl _ _) _) hb)); clear R3 HB R2 hb; have R3 := nR3; clear nR3; have HB := nHB; clear nHB; obtain ⟨hX20, hX21⟩ := X2.out.cells)
      | (go_at_call 14; (with_reducible refine (spec_ReflectWord.sem o2 s2 X2.out.rd R3.out Q2.out).mono ?_); rintro e w14 ⟨rfl, hb⟩; clear X2 R3 hX20 hX21; have nHB := Aside0.mk (below_step HB.out hb); clear  HB hb; have HB := nHB; clear nHB; )
      | (go_at_call 15; (with_reducible refine (DrawReflectOrbit_any (H2.out.below HB.out)).mono ?_); rintro e w15 ⟨u4, m4, o4, s4, rfl, hr, hb⟩; obtain ⟨A4, c4, rfl⟩ := hr.slice; have R4 := Aside0.mk hr.rd; clear hr; obtain ⟨b4, hq_⟩ : ∃ r, (setOk m4 s4) = r := ⟨_, rfl⟩; have SB := Aside0.mk hq_; clear hq_; obtain ⟨os, hq_⟩ : ∃ r, (if b4 = true then ints (orbitOf m4 true s4.toNat) else []) = r := ⟨_, rfl⟩; have EO := Aside0.mk hq_; clear hq_; have nHB := Aside0.mk (below_step HB.out hb); clear  HB hb; have HB := nHB; clear nHB; )
      | (go_at_call 16; (with_reducible refine (impl_ReflectOrbit.sem o4 s4 (R4.out.alloc _) SB.out EO.out).mono ?_); rintro e w16 ⟨u5, rfl, hr, hb⟩; obtain ⟨A5, c5, rfl⟩ := hr.slice; have R5 := Aside0.mk hr.rd; clear hr; have X4 := Aside0.mk (Gbox.new R4.out hb); have nHB := Aside0.mk (below_step HB.out (below_step (below_alloc (Below.refl _ _) _) hb)); clear  HB R4 hb; have HB := nHB; clear nHB; obtain ⟨hX40, hX41⟩ := X4.out.cells)
      | (go_at_call 17; (with_reducible refine (spec_ReflectOrbit.sem o4 s4 X4.out.rd SB.out EO.out).mono ?_); rintro e w17 ⟨u6, rfl, hr, hb⟩; obtain ⟨A6, c6, rfl⟩ := hr.slice; have R6 := Aside0.mk hr.rd; clear hr; have nX4 := Aside0.mk (X4.out.below hb); have nR5 := Aside0.mk (R5.out.below hb); have nHB := Aside0.mk (below_step HB.out hb); clear X4 R5 HB hb; (try clear hX40 hX41); have X4 := nX4; clear nX4; have R5 := nR5; clear nR5; have HB := nHB; clear nHB; obtain ⟨hX40, hX41⟩ := X4.out.cells))
    as_aux_lemma =>
      go_upto_region 32 with (first
        | (go_at_call 18; (with_reducible refine (DrawFormOf_any (H2.out.below HB.out)).mono ?_); rintro e w18 ⟨u7, m7, o7, s7, rfl, hr, hb⟩; obtain ⟨A7, c7, rfl⟩ := hr.slice; have R7 := Aside0.mk hr.rd; clear hr; obtain ⟨⟨x7, k7⟩, hq⟩ : ∃ r, (formR m7 s7) = r := ⟨_, rfl⟩; have Q7 := Aside0.mk hq; clear hq; have nX4 := Aside0.mk (X4.out.below hb); have nR5 := Aside0.mk (R5.out.below hb); have nR6 := Aside0.mk (R6.out.below hb); have nHB := Aside0.mk (below_step HB.out hb); clear X4 R5 R6 HB hb; (try clear hX40 hX41); have X4 := nX4; clear nX4; have R5 := nR5; clear nR5; have R6 := nR6; clear nR6; have HB := nHB; clear nHB; obtain ⟨hX40, hX41⟩ := X4.out.cells)
        | (go_at_call 8; (with_reducible refine (impl_FormOf.sem o7 s7 (R7.out.alloc _) Q7.out).mono ?_); rintro e w19 ⟨rfl, hb⟩; have X7 := Aside0.mk (Gbox.new R7.out hb); have nX4 := Aside0.mk (X4.out.below (below_step (below_alloc (Below.refl _ _) _) hb)); have nR5 := Aside0.mk (R5.out.below (below_step (below_alloc (Below.refl _ _) _) hb)); have nR6 := Aside0.mk (R6.out.below (below_step (below_alloc (Below.refl _ _) _) hb)); have nHB := Aside0.mk (below_step HB.out (below_step (below_alloc (Below.refl _ _) _) hb)); clear X4 R5 R6 HB R7 hb; (try clear hX40 hX41); have X4 := nX4; clear nX4; have R5 := nR5; clear nR5; have R6 := nR6; clear nR6; have HB := nHB; clear nHB; obtain ⟨hX70, hX71⟩ := X7.out.cells; obtain ⟨hX40, hX41⟩ := X4.out.cells)
        | (go_at_call 19; (with_reducible refine (spec_FormOf.sem o7 s7 X7.out.rd Q7.out).mono ?_); rintro e w20 ⟨rfl, hb⟩; clear X7 hX70 hX71; have nX4 := Aside0.mk (X4.out.below hb); have nR5 := Aside0.mk (R5.out.below hb); have nR6 := Aside0.mk (R6.out.below hb); have nHB := Aside0.mk (below_step HB.out hb); clear X4 R5 R6 HB hb; (try clear hX40 hX41); have X4 := nX4; clear nX4; have R5 := nR5; clear nR5; have R6 := nR6; clear nR6; have HB := nHB; clear nHB; obtain ⟨hX40, hX41⟩ := X4.out.cells)
        | (go_at_call 20; (with_reducible refine (DrawFormSpread_any (H2.out.below HB.out)).mono ?_); rintro e w21 ⟨u8, m8, o8, rfl, hr, hb⟩; obtain ⟨A8, c8, rfl⟩ := hr.slice; have R8 := Aside0.mk hr.rd; clear hr; obtain ⟨⟨z8, n8, k8⟩, hq⟩ : ∃ r, formSpread m8 = r := ⟨_, rfl⟩; have Q8 := Aside0.mk hq; clear hq; have nX4 := Aside0.mk (X4.out.below hb); have nR5 := Aside0.mk (R5.out.below hb); have nR6 := Aside0.mk (R6.out.below hb); have nHB := Aside0.mk (below_step HB.out hb); clear X4 R5 R6 HB hb; (try clear hX40 hX41); have X4 := nX4; clear nX4; have R5 := nR5; clear nR5; have R6 := nR6; clear nR6; have HB := nHB; clear nHB; obtain ⟨hX40, hX41⟩ := X4.out.cells)
        | (go_at_call 21; (with_reducible refine (impl_FormSpread.sem o8 (R8.out.alloc _) Q8.out).mono ?_); rintro e w22 ⟨rfl, hb⟩; have X8 := Aside0.mk (Gbox.new R8.out hb); have nX4 := Aside0.mk (X4.out.below (below_step (below_alloc (Below.refl _ _) _) hb)); have nR5 := Aside0.mk (R5.out.below (below_step (below_alloc (Below.refl _ _) _) hb)); have nR6 := Aside0.mk (R6.out.below (below_step (below_alloc (Below.refl _ _) _) hb)); have nHB := Aside0.mk (below_step HB.out (below_step (below_alloc (Below.refl _ _) _) hb)); clear X4 R5 R6 HB R8 hb; (try clear hX40 hX41); have X4 := nX4; clear nX4; have R5 := nR5; clear nR5; have R6 := nR6; clear nR6; have HB := nHB; clear nHB; obtain ⟨hX80, hX81⟩ := X8.out.cells; obtain ⟨hX40, hX41⟩ := X4.out.cells)
        | (go_at_call 22; (with_reducible refine (spec_FormSpread.sem o8 X8.out.rd Q8.out).mono ?_); rintro e w23 ⟨rfl, hb⟩; have nX4 := Aside0.mk (X4.out.below hb); have nX8 := Aside0.mk (X8.out.below hb); have nR5 := Aside0.mk (R5.out.below hb); have nR6 := Aside0.mk (R6.out.below hb); have nHB := Aside0.mk (below_step HB.out hb); clear X4 X8 R5 R6 HB hb; (try clear hX40 hX41); (try clear hX80 hX81); have X4 := nX4; clear nX4; have X8 := nX8; clear nX8; have R5 := nR5; clear nR5; have R6 := nR6; clear nR6; have HB := nHB; clear nHB; obtain ⟨hX40, hX41⟩ := X4.out.cells; obtain ⟨hX80, hX81⟩ := X8.out.cells))
      as_aux_lemma =>
        go_upto_if 331 with (first
          | (go_at_call 23; (with_reducible refine (DrawFormOfLights_any (H2.out.below HB.out)).mono ?_); rintro e w24 ⟨u9, m9, o9, s9, rfl, hr, hb⟩; obtain ⟨A9, c9, rfl⟩ := hr.slice; have R9 := Aside0.mk hr.rd; clear hr; obtain ⟨⟨x9, k9⟩, hq⟩ : ∃ r, (lightsR m9 s9) = r := ⟨_, rfl⟩; have Q9 := Aside0.mk hq; clear hq; have nX4 := Aside0.mk (X4.out.below hb); have nX8 := Aside0.mk (X8.out.below hb); have nR5 := Aside0.mk (R5.out.below hb); have nR6 := Aside0.mk (R6.out.below hb); have nHB := Aside0.mk (below_step HB.out hb); clear X4 X8 R5 R6 HB hb; (try clear hX40 hX41); (try clear hX80 hX81); have X4 := nX4; clear nX4; have X8 := nX8; clear nX8; have R5 := nR5; clear nR5; have R6 := nR6; clear nR6; have HB := nHB; clear nHB; obtain ⟨hX40, hX41⟩ := X4.out.cells; obtain ⟨hX80, hX81⟩ := X8.out.cells)
          | (go_at_call 24; (with_reducible refine (impl_FormOfLights.sem o9 s9 (R9.out.alloc _) Q9.out).mono ?_); rintro e w25 ⟨rfl, hb⟩; have X9 := Aside0.mk (Gbox.new R9.out hb); have nX4 := Aside0.mk (X4.out.below (below_step (below_alloc (Below.refl _ _) _) hb)); have nX8 := Aside0.mk (X8.out.below (below_step (below_alloc (Below.refl _ _) _) hb)); have nR5 := Aside0.mk (R5.out.below (below_step (below_alloc (Below.refl _ _) _) hb)); have nR6 := Aside0.mk (R6.out.below (below_step (below_alloc (Below.refl _ _) _) hb)); have nHB := Aside0.mk (below_step HB.out (below_step (below_alloc (Below.refl _ _) _) hb)); clear X4 X8 R5 R6 HB R9 hb; (try clear hX40 hX41); (try clear hX80 hX81); have X4 := nX4; clear nX4; have X8 := nX8; clear nX8; have R5 := nR5; clear nR5; have R6 := nR6; clear nR6; have HB := nHB; clear nHB; obtain ⟨hX90, hX91⟩ := X9.out.cells; obtain ⟨hX40, hX41⟩ := X4.out.cells; obtain ⟨hX80, hX81⟩ := X8.out.cells)
          | (go_at_call 25; (with_reducible refine (spec_FormOfLights.sem o9 s9 X9.out.rd Q9.out).mono ?_); rintro e w26 ⟨rfl, hb⟩; have nX4 := Aside0.mk (X4.out.below hb); have nX8 := Aside0.mk (X8.out.below hb); have nX9 := Aside0.mk (X9.out.below hb); have nR5 := Aside0.mk (R5.out.below hb); have nR6 := Aside0.mk (R6.out.below hb); have nHB := Aside0.mk (below_step HB.out hb); clear X4 X8 X9 R5 R6 HB hb; (try clear hX40 hX41); (try clear hX80 hX81); (try clear hX90 hX91); have X4 := nX4; clear nX4; have X8 := nX8; clear nX8; have X9 := nX9; clear nX9; have R5 := nR5; clear nR5; have R6 := nR6; clear nR6; have HB := nHB; clear nHB; obtain ⟨hX40, hX41⟩ := X4.out.cells; obtain ⟨hX80, hX81⟩ := X8.out.cells; obtain ⟨hX90, hX91⟩ := X9.out.cells)
          | (go_at_call 26; (with_reducible refine (hSame_sem R5.out R6.out true (by simp)).mono ?_); rintro e w27 ⟨rfl, hb⟩; have nX4 := Aside0.mk (X4.out.below hb); have nX8 := Aside0.mk (X8.out.below hb); have nX9 := Aside0.mk (X9.out.below hb); have nR5 := Aside0.mk (R5.out.below hb); have nHB := Aside0.mk (below_step HB.out hb); clear X4 X8 X9 R5 HB hb; (try clear hX40 hX41); (try clear hX80 hX81); (try clear hX90 hX91); have X4 := nX4; clear nX4; have X8 := nX8; clear nX8; have X9 := nX9; clear nX9; have R5 := nR5; clear nR5; have HB := nHB; clear nHB; obtain ⟨hX40, hX41⟩ := X4.out.cells; obtain ⟨hX80, hX81⟩ := X8.out.cells; obtain ⟨hX90, hX91⟩ := X9.out.cells))
        clear Q2 Q7
        go_cut [] (fun wc => Aside0 (Below W.heap.size W wc) ∧ Aside0 (Gbox wc w21.heap.size (.slice A8 m8.length c8) o8 m8) ∧ Aside0 (Gbox wc w24.heap.size (.slice A9 m9.length c9) o9 m9))
        case first => as_aux_lemma =>
          cases b4
          · go_wp2
            go_meet
            case rel => exact ⟨HB, X8, X9⟩
          · have eo := EO.out
            simp only [if_true] at eo
            obtain ⟨f4, hf, hh, hall⟩ := stays_orbit SB.out eo
            have F4 := Aside0.mk hf
            have HH := Aside0.mk hh
            have HA := Aside0.mk hall
            clear hf hh hall eo EO
            go_wp2_with (first
              | (go_at_call 8; (with_reducible refine (impl_FormOf.sem o4 s4 X4.out.rd F4.out).mono ?_); rintro e w28 ⟨rfl, hb⟩; have nX4 := Aside0.mk (X4.out.below hb); have nX8 := Aside0.mk (X8.out.below hb); have nX9 := Aside0.mk (X9.out.below hb); have nR5 := Aside0.mk (R5.out.below hb); have nHB := Aside0.mk (below_step HB.out hb); clear X4 X8 X9 R5 HB hb; (try clear hX40 hX41); (try clear hX80 hX81); (try clear hX90 hX91); have X4 := nX4; clear nX4; have X8 := nX8; clear nX8; have X9 := nX9; clear nX9; have R5 := nR5; clear nR5; have HB := nHB; clear nHB; obtain ⟨hX40, hX41⟩ := X4.out.cells; obtain ⟨hX80, hX81⟩ := X8.out.cells; obtain ⟨hX90, hX91⟩ := X9.out.cells)
              | (go_at_call 27; (with_reducible refine (hHas_sem R5.out s4 true HH.out).mono ?_); rintro e w29 ⟨rfl, hb⟩; have nX4 := Aside0.mk (X4.out.below hb); have nX8 := Aside0.mk (X8.out.below hb); have nX9 := Aside0.mk (X9.out.below hb); have nR5 := Aside0.mk (R5.out.below hb); have nHB := Aside0.mk (below_step HB.out hb); clear X4 X8 X9 R5 HB hb; (try clear hX40 hX41); (try clear hX80 hX81); (try clear hX90 hX91); have X4 := nX4; clear nX4; have X8 := nX8; clear nX8; have X9 := nX9; clear nX9; have R5 := nR5; clear nR5; have HB := nHB; clear nHB; obtain ⟨hX40, hX41⟩ := X4.out.cells; obtain ⟨hX80, hX81⟩ := X8.out.cells; obtain ⟨hX90, hX91⟩ := X9.out.cells))
            go_loopw [348] (fun v348 wr => ∃ j : Nat, j ≤ os.length ∧ v348 = .int .i64 (j : Int) ∧ Aside0 (Gbox wr w15.heap.size (.slice A4 m4.length c4) o4 m4) ∧ Aside0 (Gbox wr w21.heap.size (.slice A8 m8.length c8) o8 m8) ∧ Aside0 (Gbox wr w24.heap.size (.slice A9 m9.length c9) o9 m9) ∧ Aside0 (Rd wr (.slice A5 os.length c5) os) ∧ Aside0 (Below W.heap.size W wr)) (fun v348 _ => os.length - (intOf v348).toNat)
            case atStart => exact ⟨0, Nat.zero_le _, rfl, X4, X8, X9, R5, HB⟩
            case round => as_aux_lemma =>
              clear X4 X8 X9 R5 HB hX40 hX41 hX80 hX81 hX90 hX91
              obtain ⟨j, hj, rfl, X4, X8, X9, R5, HB⟩ := hrel
              have hlen := R5.out.len
              by_cases hlt : j < os.length
              · obtain ⟨ad, rfl, hc_⟩ := R5.out.cell (j : Int) (by omega) (by omega)
                clear hc_
                have hcell := R5.out.cellN j hlt
                obtain ⟨hX40, hX41⟩ := X4.out.cells
                have F5 := Aside0.mk (HA.out j hlt)
                go_wp2_with (go_at_call 8; (with_reducible refine (impl_FormOf.sem o4 (rd os (j : Int)) X4.out.rd F5.out).mono ?_); rintro e w30 ⟨rfl, hb⟩; (try clear hcell); have nX4 := Aside0.mk (X4.out.below hb); have nX8 := Aside0.mk (X8.out.below hb); have nX9 := Aside0.mk (X9.out.below hb); have nR5 := Aside0.mk (R5.out.below hb); have nHB := Aside0.mk (below_step HB.out hb); clear X4 X8 X9 R5 HB hb; (try clear hX40 hX41); (try clear hX80 hX81); (try clear hX90 hX91); have X4 := nX4; clear nX4; have X8 := nX8; clear nX8; have X9 := nX9; clear nX9; have R5 := nR5; clear nR5; have HB := nHB; clear nHB; obtain ⟨hX40, hX41⟩ := X4.out.cells; obtain ⟨hX80, hX81⟩ := X8.out.cells; obtain ⟨hX90, hX91⟩ := X9.out.cells)
                go_roundw
                case rel => exact ⟨j + 1, by omega, by go_num, X4, X8, X9, R5, HB⟩
                case measure => simp [intOf]; omega
              · go_wp2
                go_meet
                case rel => exact ⟨HB, X8, X9⟩
        case rest => as_aux_lemma =>
          clear HB X4 X8 X9 R5 R6 hX40 hX41 hX80 hX81 hX90 hX91 SB EO
          obtain ⟨HB, X8, X9⟩ := hcut
          obtain ⟨hX80, hX81⟩ := X8.out.cells
          go_upto_region 48 with (fail)
          go_cut [376] (fun v376 wc => v376 = .bool false ∧ Aside0 (Below W.heap.size W wc) ∧ Aside0 (Gbox wc w24.heap.size (.slice A9 m9.length c9) o9 m9))
          case first => as_aux_lemma =>
            cases k8
            · go_wp2
              go_meet
              case rel => exact ⟨rfl, HB, X9⟩
            · have t1 := spread_sum Q8.out
              go_wp2
              go_meet
              case rel => exact ⟨rfl, HB, X9⟩
          case rest => as_aux_lemma =>
            clear HB X8 X9 hX80 hX81 Q8
            obtain ⟨rfl, HB, X9⟩ := hcut
            obtain ⟨hX90, hX91⟩ := X9.out.cells
            go_upto_if 377 with (fail)
            cases k9
            · go_wp2
              go_ret
              exact ⟨rfl, HB.out⟩
            · obtain ⟨hb9, hall⟩ := stays_lights Q9.out
              obtain ⟨oz, ho⟩ : ∃ r, (if true = true then ints (orbitOf m9 false s9.toNat) else []) = r := ⟨_, rfl⟩
              have HA := Aside0.mk (hall oz ho)
              have SB9 := Aside0.mk hb9
              have EO9 := Aside0.mk ho
              clear hall hb9 ho
              go_wp2_with (go_at_call 28; (with_reducible refine (impl_ReachOf.sem o9 s9 X9.out.rd SB9.out EO9.out).mono ?_); rintro e w31 ⟨u10, rfl, hr, hb⟩; obtain ⟨A10, c10, rfl⟩ := hr.slice; have R10 := Aside0.mk hr.rd; clear hr; have nX9 := Aside0.mk (X9.out.below hb); have nHB := Aside0.mk (below_step HB.out hb); clear X9 HB hb; (try clear hX90 hX91); have X9 := nX9; clear nX9; have HB := nHB; clear nHB; obtain ⟨hX90, hX91⟩ := X9.out.cells)
              go_loopw [386] (fun v386 wr => ∃ j : Nat, j ≤ oz.length ∧ v386 = .int .i64 (j : Int) ∧ Aside0 (Gbox wr w24.heap.size (.slice A9 m9.length c9) o9 m9) ∧ Aside0 (Rd wr (.slice A10 oz.length c10) oz) ∧ Aside0 (Below W.heap.size W wr)) (fun v386 _ => oz.length - (intOf v386).toNat)
              case atStart => exact ⟨0, Nat.zero_le _, rfl, X9, R10, HB⟩
              case round => as_aux_lemma =>
                clear X9 R10 HB hX90 hX91
                obtain ⟨j, hj, rfl, X9, R10, HB⟩ := hrel
                have hlen := R10.out.len
                by_cases hlt : j < oz.length
                · obtain ⟨ad, rfl, hc_⟩ := R10.out.cell (j : Int) (by omega) (by omega)
                  clear hc_
                  have hcell := R10.out.cellN j hlt
                  obtain ⟨hX90, hX91⟩ := X9.out.cells
                  have F9 := Aside0.mk (HA.out j hlt)
                  go_wp2_with (go_at_call 24; (with_reducible refine (impl_FormOfLights.sem o9 (rd oz (j : Int)) X9.out.rd F9.out).mono ?_); rintro e w32 ⟨rfl, hb⟩; (try clear hcell); have nX9 := Aside0.mk (X9.out.below hb); have nR10 := Aside0.mk (R10.out.below hb); have nHB := Aside0.mk (below_step HB.out hb); clear X9 R10 HB hb; (try clear hX90 hX91); have X9 := nX9; clear nX9; have R10 := nR10; clear nR10; have HB := nHB; clear nHB; obtain ⟨hX90, hX91⟩ := X9.out.cells)
                  go_roundw
                  case rel => exact ⟨j + 1, by omega, by go_num, X9, R10, HB⟩
                  case measure => simp [intOf]; omega
                · go_wp2
                  go_ret
                  exact ⟨rfl, HB.out⟩
theorem FnFormStays_walk (a0 : Option Addr) (len0 cap0 : Nat) (z0 : List Int) (a1 : Option Addr) (len1 cap1 : Nat) (z1 : List Int) (w : World) (h0 : YtjocpjjimhefjaaGreatGr.IsRow .u8 w a0 len0 cap0 z0) (y0 : len0 * 1 ≤ 140737488351232) (h1 : YtjocpjjimhefjaaGreatGr.IsRow .u8 w a1 len1 cap1 z1) (y1 : len1 * 1 ≤ 140737488351232) :
    Calls Tryz.prog 3 #[.slice a0 len0 cap0, .slice a1 len1 cap1] w fun e w' => e = .returned (.bool true) ∧ Below w.heap.size w w' := by
  obtain ⟨l0, g0⟩ := Rb.row h0
  obtain ⟨l1, g1⟩ := Rb.row h1
  exact law_main g0 g1
end Go.Proofs.YtjocpjjimhefjaaGreat.Draw
