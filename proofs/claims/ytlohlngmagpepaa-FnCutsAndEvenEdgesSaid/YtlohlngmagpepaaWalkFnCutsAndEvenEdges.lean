/- The walk of FnCutsAndEvenEdges: the call returns true and leaves memory as it was. Conditions: what its row lays. -/
import Derived.Test.YtlohlngmagpepaaPFnCutsAndEvenEdgesx
import Derived.Test.YtlohlngmagpepaaQFnCutsAndEvenEdges0
import Derived.Test.YtlohlngmagpepaaQFnCutsAndEvenEdges1
import Derived.Test.YtlohlngmagpepaaM1
import Derived.Test.YtlohlngmagpepaaM44
import Derived.WalkKit
import Derived.RowKit3
import Derived.Deep.QuietTactic
import Derived.BigQuiet
import Derived.Deep.DeepCutAuto
import Derived.Deep.CutBlock
import Derived.Deep.LoopGhost
import Derived.Outline
import Derived.Deep.DeepFit
import Derived.Test.YtlohlngmagpepaaDFnCutsAndEvenEdges0
import Derived.Test.YtlohlngmagpepaaDFnCutsAndEvenEdges2
import Derived.Test.YtlohlngmagpepaaDFnCutsAndEvenEdges5
import Derived.Test.YtlohlngmagpepaaDFnCutsAndEvenEdges6
import Derived.Test.YtlohlngmagpepaaDFnCutsAndEvenEdges7
namespace Go.Proofs.Ytlohlngmagpepaa.Draw
open Go.RowKit Go.Proofs.Ytlohlngmagpepaa.PFnCutsAndEvenEdges Go.Proofs.YtlohlngmagpepaaW.PrintWords Go.Proofs.YtlohlngmagpepaaW.PrintLast Go.Proofs.YtlohlngmagpepaaW.PrintMore Go.Proofs.YtlohlngmagpepaaM Go.Proofs.Ytlohlngmagpepaa.Pure
attribute [local go_sem] max2_int min2_int max_two min_two max_three min_three max_four min_four
set_option linter.unusedVariables false
set_option linter.unusedSimpArgs false
theorem cutR_case (m : List Int) (s : Int) : (cutR m s = ([], false)) ∨ ∃ t : Nat, s = (t : Int) ∧ GoodG m ∧ t < 2 ^ m.length ∧ cutR m s = (cutOf m t, true) := by
  cases hok : boardOk m s
  · left
    unfold cutR
    rw [hok]
    rfl
  · right
    obtain ⟨hG, hs⟩ := boardOk_of hok
    obtain ⟨h0, h1, h2⟩ := inSet_lt hs
    have hc := pow_cast m.length
    obtain ⟨t, rfl⟩ := Int.eq_ofNat_of_zero_le h0
    refine ⟨t, rfl, hG, by omega, ?_⟩
    unfold cutR
    rw [hok, Int.toNat_natCast]
    rfl
theorem cutR_of {m : List Int} {t : Nat} (hG : GoodG m) (ht : t < 2 ^ m.length) : cutR m (t : Int) = (cutOf m t, true) := by
  have hok : boardOk m (t : Int) = true := by
    unfold boardOk
    have hc := pow_cast m.length
    rw [(good_iff m).2 hG]
    simp [inSet]
    omega
  unfold cutR
  rw [hok, Int.toNat_natCast]
  rfl
theorem cut_short {m : List Int} (hG : GoodG m) (t : Nat) : (cutOf m t).length ≤ (edgesOf m).length ∧ ∀ e ∈ cutOf m t, e.length ≤ 1000 :=
  ⟨List.length_filter_le _ _, fun e he => by
    obtain ⟨x, y, rfl, _⟩ := edgesFrom_pairs m m.length 0 e (List.mem_filter.1 he).1
    simp⟩
theorem bit_test {s i : Nat} {b : Bool} (h : s.testBit i = b) : ((((s : Int) / 2 ^ i).tmod 2) == 1) = b ∧ ((((s : Int) / 2 ^ i) % 2) == 1) = b ∧ ((((s : Int) / 2 ^ min i 64).tmod 2) == 1) = ((((s : Int) / 2 ^ min i 64) % 2) == 1) := by
  have e1 : ((s : Int) / 2 ^ i) = ((s >>> i : Nat) : Int) := by
    rw [Nat.shiftRight_eq_div_pow, ← pow_cast]
    exact (Int.natCast_ediv s (2 ^ i)).symm
  have e2 : ((s : Int) / 2 ^ min i 64) = ((s >>> min i 64 : Nat) : Int) := by
    rw [Nat.shiftRight_eq_div_pow, ← pow_cast]
    exact (Int.natCast_ediv s (2 ^ min i 64)).symm
  have hb : (s >>> i) % 2 = if b = true then 1 else 0 := by
    rw [← h, Nat.testBit_eq_decide_div_mod_eq, Nat.shiftRight_eq_div_pow]
    by_cases e : s / 2 ^ i % 2 = 1
    · simp [e]
    · simp [e]; omega
  rw [e1, e2]
  generalize s >>> i = x at hb ⊢
  generalize s >>> min i 64 = y
  have t1 : Int.tmod (x : Int) 2 = ((x % 2 : Nat) : Int) := rfl
  have t2 : Int.tmod (y : Int) 2 = ((y % 2 : Nat) : Int) := rfl
  rw [t1, t2, hb]
  refine ⟨by cases b <;> rfl, ?_, ?_⟩
  · rw [Bool.eq_iff_iff, beq_iff_eq]
    cases b
    · rw [if_neg (by decide)] at hb
      constructor
      · intro h; omega
      · intro h; cases h
    · rw [if_pos rfl] at hb
      constructor
      · intro _; rfl
      · intro _; omega
  · rw [Bool.eq_iff_iff, beq_iff_eq, beq_iff_eq]
    omega
/-- The degrees of a set's buttons, of the first k. -/
def degSum (m : List Int) (t k : Nat) : Nat := sumFrom (fun x => if t.testBit x = true then pop (nb m x) else 0) 0 k
theorem degSum_succ (m : List Int) (t k : Nat) : degSum m t (k + 1) = degSum m t k + (if t.testBit k = true then pop (nb m k) else 0) := by
  unfold degSum
  rw [sumFrom_last, Nat.zero_add]
theorem degSum_le {m : List Int} (hG : GoodG m) (t : Nat) : ∀ k, k ≤ m.length → degSum m t k ≤ 16 * k
  | 0, _ => Nat.le_refl _
  | k + 1, hk => by
    rw [degSum_succ]
    have h1 := degSum_le hG t k (by omega)
    have h2 : pop (nb m k) ≤ 16 := Nat.le_trans (pop_le (by have := hG.top; omega) (nb_lt hG (by omega))) hG.top
    split <;> omega
def cuN (m : List Int) : Nat := (evenCuts m).length >>> (partsUp (nbs m) m.length m.length).1.length
set_option maxRecDepth 100000 in
set_option maxHeartbeats 8000000 in
theorem law_main {W : World} {v v2 : Value} {l l2 : List Int} (h : Rb W v l) (h2 : Rb W v2 l2) : Calls Try.prog 3 #[v, v2] W fun e W' => e = .returned (.bool true) ∧ Below W.heap.size W W' := by
  have hu := Try.underlying26
  have HB := Aside0.mk (Below.refl W.heap.size W)
  have H1 := Aside0.mk h
  have H2 := Aside0.mk h2
  clear h h2
  go_enter Try.func3, Try.ntmps3
  go_upto_region 4 with (first
    | (go_at_call 4; refine (big_any H1.out H2.out).mono ?_; rintro e w1 ⟨nd, b, rfl, rfl⟩; have nHB := Aside0.mk (pw_below_drewN HB.out nd); clear HB; have HB := nHB; clear nHB)
    | (go_at_call 5; (with_reducible refine (DrawCutOf_any (H1.out.below HB.out)).mono ?_); rintro e w2 ⟨u1, m, o, s, rfl, hr, hb⟩; obtain ⟨A1, c1, rfl⟩ := hr.slice; have R := Aside0.mk hr.rd; clear hr; have nHB := Aside0.mk (below_step HB.out hb); clear  HB hb; have HB := nHB; clear nHB; ))
  · go_ret
    exact ⟨rfl, HB.out⟩
  obtain ⟨⟨r, k⟩, hc⟩ : ∃ p, cutR m s = p := ⟨_, rfl⟩
  have Q0 := Aside0.mk hc
  have HRS := Aside0.mk (show ∀ e ∈ r, e.length ≤ 1000 from by
    rcases cutR_case m s with h | ⟨t, _, hG, _, h⟩
    · rw [h] at hc
      injection hc with e1 _
      rw [← e1]
      simp
    · rw [h] at hc
      injection hc with e1 _
      rw [← e1]
      exact (cut_short hG t).2)
  clear hc H1
  go_upto_if 71 with (first
    | (go_at_call 6; (with_reducible refine (CutOf_all o (R.out.alloc _) Q0.out).mono ?_); rintro e w3 ⟨u5, rfl, hn, hb⟩; obtain ⟨A5, c5, rfl⟩ := hn.slice; have E5 := Aside0.mk hn; clear hn; have X := Aside0.mk (Gbox.new R.out hb); have nHB := Aside0.mk (below_step HB.out (below_step (below_alloc (Below.refl _ _) _) hb)); clear  HB R hb; have HB := nHB; clear nHB; obtain ⟨hX0, hX1⟩ := X.out.cells)
    | (go_at_call 7; (with_reducible refine (specCutOf_rd o X.out.rd Q0.out).mono ?_); rintro e w4 ⟨u6, rfl, hn, hb⟩; obtain ⟨A6, c6, rfl⟩ := hn.slice; have E6 := Aside0.mk hn; clear hn; have nX := Aside0.mk (X.out.below hb); have nE5 := Aside0.mk (E5.out.below hb); have nHB := Aside0.mk (below_step HB.out hb); clear X E5 HB hb; (try clear hX0 hX1); have X := nX; clear nX; have E5 := nE5; clear nE5; have HB := nHB; clear nHB; obtain ⟨hX0, hX1⟩ := X.out.cells)
    | (go_at_call 8; (with_reducible refine (hRows_rd E5.out E6.out HRS.out).mono ?_); rintro e w5 ⟨rfl, hb⟩; rw [decide_eq_true (Eq.refl r)]; clear E6; have nX := Aside0.mk (X.out.below hb); have nE5 := Aside0.mk (E5.out.below hb); have nHB := Aside0.mk (below_step HB.out hb); clear X E5 HB hb; (try clear hX0 hX1); have X := nX; clear nX; have E5 := nE5; clear nE5; have HB := nHB; clear nHB; obtain ⟨hX0, hX1⟩ := X.out.cells))
  go_cut [4] (fun v4 wc => v4 = .bool false ∧ Aside0 (Below W.heap.size W wc))
  case first => as_aux_lemma =>
    cases k
    · go_wp2
      go_meet
      case rel => exact ⟨rfl, HB⟩
    · obtain ⟨t, rfl, hG, ht, hr⟩ : ∃ t : Nat, s = (t : Int) ∧ GoodG m ∧ t < 2 ^ m.length ∧ r = cutOf m t := by
        have q := Q0.out
        rcases cutR_case m s with h | ⟨t, e, hG, ht, h⟩
        · rw [h] at q
          injection q with _ q
          cases q
        · rw [h] at q
          injection q with q _
          exact ⟨t, e, hG, ht, q.symm⟩
      subst hr
      have hm16 := hG.top
      obtain ⟨z, hz⟩ : ∃ z : Nat, 2 ^ m.length = z := ⟨_, rfl⟩
      have hz16 : (2 : Nat) ^ m.length ≤ 2 ^ 16 := Nat.pow_le_pow_right (by decide) hm16
      have hz1 := Nat.two_pow_pos m.length
      have xn := andnot_others hG ht
      have ht2 := ht
      rw [hz] at hz16 hz1 xn ht2
      have hwz2 : IntKind.i64.wrap (2 ^ m.length) = (z : Int) := by
        have e : ((2 : Int) ^ m.length) = (z : Int) := by rw [← hz]; exact (pow_cast _).symm
        rw [e]
        exact wraps_i64 _ (by omega) (by omega)
      have hwy2 : IntKind.i64.wrap ((z : Int) - 1) = (z : Int) - 1 := wraps_i64 _ (by omega) (by omega)
      rw [show ((z - 1 : Nat) : Int) = (z : Int) - 1 by omega] at xn
      have QT := Aside0.mk (cutR_of hG (others_lt ht))
      rw [cut_others hG t] at QT
      obtain ⟨ot, hot⟩ : ∃ y, othersP m t = y := ⟨_, rfl⟩
      rw [hot] at QT xn
      have HGG := Aside0.mk hG
      have HT := Aside0.mk ht
      have HD := Aside0.mk (show degreesR m = (ints ((List.range m.length).map fun i => pop (nb m i)), true) by unfold degreesR; rw [(good_iff m).2 hG]; rfl)
      have hle := (cut_short hG t).1
      have HSUM := Aside0.mk (cut_degrees hG ht)
      have HDS := Aside0.mk (degSum_le hG t)
      have hel := edges_len hG
      have HCS := Aside0.mk (cut_short hG t).2
      have HDL := Aside0.mk (degSum_le hG t m.length (Nat.le_refl _))
      clear hz hz16 hz1 hot hG ht ht2 Q0 HRS
      go_upto_region 9 with (fail)
      go_region_held3 (fun w' => w'.cell? ⟨w2.heap.size, 0, none⟩ = some (.slice A1 m.length c1) ∧ w'.cell? ⟨w2.heap.size, 1, none⟩ = some (.bool o)) (first | exact ⟨hX0, hX1⟩ | go_keep) (first | (go_at_call 6; (with_reducible refine (CutOf_all o (X.out.below (below_drew1 (Below.refl _ _))).rd QT.out).mono ?_); rintro e w6 ⟨u7, rfl, hn, hb0⟩; obtain ⟨A7, c7, rfl⟩ := hn.slice; have E7 := Aside0.mk hn; have hb := below_step (below_drew1 (Below.refl w5.heap.size w5)) hb0; clear hb0 hn; have nX := Aside0.mk (X.out.below hb); have nE5 := Aside0.mk (E5.out.below hb); have nHB := Aside0.mk (below_step HB.out hb); clear X E5 HB hb; (try clear hX0 hX1); have X := nX; clear nX; have E5 := nE5; clear nE5; have HB := nHB; clear nHB; obtain ⟨hX0, hX1⟩ := X.out.cells))
      go_wp2_with (first
        | (go_at_call 9; (with_reducible refine (EdgesOf_rd o X.out.rd HGG.out).mono ?_); rintro e w7 ⟨u8, rfl, hn, hb⟩; obtain ⟨A8, c8, rfl⟩ := hn.slice; clear hn; have nX := Aside0.mk (X.out.below hb); have nE5 := Aside0.mk (E5.out.below hb); have nE7 := Aside0.mk (E7.out.below hb); have nHB := Aside0.mk (below_step HB.out hb); clear X E5 E7 HB hb; (try clear hX0 hX1); have X := nX; clear nX; have E5 := nE5; clear nE5; have E7 := nE7; clear nE7; have HB := nHB; clear nHB; obtain ⟨hX0, hX1⟩ := X.out.cells)
        | (go_at_call 10; (with_reducible refine (DegreesWithin_rd o X.out.rd HGG.out HT.out).mono ?_); rintro e w8 ⟨u9, rfl, hn, hb⟩; obtain ⟨A9, c9, rfl⟩ := hn.slice; have R9 := Aside0.mk hn; clear hn; have nX := Aside0.mk (X.out.below hb); have nE5 := Aside0.mk (E5.out.below hb); have nE7 := Aside0.mk (E7.out.below hb); have nHB := Aside0.mk (below_step HB.out hb); clear X E5 E7 HB hb; (try clear hX0 hX1); have X := nX; clear nX; have E5 := nE5; clear nE5; have E7 := nE7; clear nE7; have HB := nHB; clear nHB; obtain ⟨hX0, hX1⟩ := X.out.cells)
        | (go_at_call 11; (with_reducible refine (impl_DegreesOf.sem o X.out.rd HD.out).mono ?_); rintro e w9 ⟨u10, rfl, hn, hb⟩; obtain ⟨A10, c10, h10⟩ := hn.slice; rw [ints_length, List.length_map, List.length_range] at h10; subst h10; have R10 := Aside0.mk hn.rd; clear hn; have nX := Aside0.mk (X.out.below hb); have nE5 := Aside0.mk (E5.out.below hb); have nE7 := Aside0.mk (E7.out.below hb); have nR9 := Aside0.mk (R9.out.below hb); have nHB := Aside0.mk (below_step HB.out hb); clear X E5 E7 R9 HB hb; (try clear hX0 hX1); have X := nX; clear nX; have E5 := nE5; clear nE5; have E7 := nE7; clear nE7; have R9 := nR9; clear nR9; have HB := nHB; clear nHB; obtain ⟨hX0, hX1⟩ := X.out.cells))
      generalize hdp : degP m t m.length = dp at *
      have hdl : ∀ j, (hj : j < m.length) → rd (ints ((List.range m.length).map fun i => pop (nb m i))) (j : Int) = ((pop (nb m j) : Nat) : Int) := fun j hj => by
        rw [ints_get _ j (by simp; omega)]
        simp
      have HDV := Aside0.mk hdl
      have HPP := Aside0.mk (fun j (hj : j < m.length) => Nat.le_trans (pop_le (by omega) (nb_lt HGG.out hj)) hm16)
      have HS2 := Aside0.mk (show degSum m t m.length = dp.sum + (cutOf m t).length from HSUM.out)
      have HDN := Aside0.mk (degSum_succ m t)
      generalize ints ((List.range m.length).map fun i => pop (nb m i)) = ds at *
      generalize (edgesOf m).length = el at *
      generalize hct : cutOf m t = ct at *
      have tl1 : decide ((ct.length : Int) > (el : Int)) = false := decide_eq_false (by omega)
      have tl2 : decide (el < ct.length) = false := decide_eq_false (by omega)
      clear hct hdl hdp HSUM HD QT hwz2 hwy2 xn HT X hX0 hX1
      have hs0 : degSum m t 0 = 0 := rfl
      have HS0 := Aside0.mk hs0
      clear hs0
      generalize hdsf : degSum m t = dsf at *
      clear hdsf
      go_loopw [19, 102] (fun v19 v102 wr => ∃ (j sv : Nat), j ≤ m.length ∧ v102 = .int .i64 (j : Int) ∧ v19 = .int .i64 (sv : Int) ∧ Aside0 (sv = dsf j) ∧ Aside0 (Rd wr (.slice A10 m.length c10) ds) ∧ Aside0 (RdE wr (.slice A5 ct.length c5) ct) ∧ Aside0 (RdE wr (.slice A7 ct.length c7) ct) ∧ Aside0 (Rd wr (.slice A9 (ints dp).length c9) (ints dp)) ∧ Aside0 (Below W.heap.size W wr)) (fun _ v102 _ => m.length - (intOf v102).toNat)
      case atStart => exact ⟨0, 0, Nat.zero_le _, rfl, rfl, ⟨HS0.out.symm⟩, R10, E5, E7, R9, HB⟩
      case round =>
        clear R10 E5 E7 R9 HB
        obtain ⟨j, sv, hj, rfl, rfl, HSV, R10, E5, E7, R9, HB⟩ := hrel
        have hsv : sv ≤ 256 := by have h1 := HDS.out j hj; have h2 := HSV.out; omega
        by_cases hlt : j < m.length
        · obtain ⟨ad, e1, hc_⟩ := R10.out.cell (j : Int) (by omega) (by omega)
          subst e1
          clear hc_
          have hcell := R10.out.cellN j hlt
          rw [HDV.out j hlt] at hcell
          have hpj := HPP.out j hlt
          have hst := HDN.out j
          obtain ⟨q, hq⟩ : ∃ q, t.testBit j = q := ⟨_, rfl⟩
          obtain ⟨t1, t2, t3⟩ := bit_test hq
          rw [Nat.min_eq_left (show j ≤ 64 by omega)] at t3
          rw [hq] at hst
          generalize pop (nb m j) = pj at *
          have HST := Aside0.mk hst
          clear hq hst t3
          cases q
          · go_wp2
            go_roundw
            case rel => exact ⟨j + 1, sv, by omega, by go_num, rfl, ⟨by rw [HST.out, if_neg (by decide)]; exact HSV.out⟩, R10, E5, E7, R9, HB⟩
            case measure => simp [intOf]; omega
          · go_wp2
            go_roundw
            case rel => exact ⟨j + 1, sv + pj, by omega, by go_num, by go_num, ⟨by rw [HST.out, if_pos rfl, HSV.out]⟩, R10, E5, E7, R9, HB⟩
            case measure => simp [intOf]; omega
        · obtain rfl : j = m.length := by omega
          obtain rfl : sv = dp.sum + ct.length := HSV.out.trans HS2.out
          have hs256 : dp.sum ≤ 256 := by omega
          obtain ⟨sm, hsm⟩ : ∃ x, dp.sum = x := ⟨_, rfl⟩
          have HSM := Aside0.mk hsm
          go_wp2_with (first
            | (go_at_call 8; (with_reducible refine (hRows_rd E7.out E5.out HCS.out).mono ?_); rintro e w20 ⟨rfl, hb⟩; rw [decide_eq_true (Eq.refl ct)]; clear E7 E5 R10; have nR9 := Aside0.mk (R9.out.below hb); have nHB := Aside0.mk (below_step HB.out hb); clear R9 HB hb; have R9 := nR9; clear nR9; have HB := nHB; clear nHB; )
            | (go_at_call 12; (with_reducible refine (hSum_sem R9.out (by omega)).mono ?_); rintro e w21 ⟨rfl, hb⟩; clear R9; have nHB := Aside0.mk (below_step HB.out hb); clear  HB hb; have HB := nHB; clear nHB; ))
          go_meet
          case rel => exact ⟨rfl, HB⟩
  case rest => as_aux_lemma =>
    clear HB X hX0 hX1 E5 Q0 HRS
    obtain ⟨rfl, HB⟩ := hcut
    go_upto_region 23 with (go_at_call 13; (with_reducible refine (DrawIsEvenEdges_any (H2.out.below HB.out)).mono ?_); rintro e w12 ⟨u2, m2, o2, u8, E, rfl, hr, hE, hb⟩; obtain ⟨A2, c2, rfl⟩ := hr.slice; have R2 := Aside0.mk hr.rd; obtain ⟨hE1, hE2, hE3⟩ := hE; obtain ⟨A8, c8, rfl⟩ := hE1.slice; have E8 := Aside0.mk hE1; have HE3 := Aside0.mk hE3; clear hr hE1 hE3; have nHB := Aside0.mk (below_step HB.out hb); clear  HB hb; have HB := nHB; clear nHB; )
    obtain ⟨⟨x2, k2⟩, hq⟩ : ∃ p, evListR m2 E = p := ⟨_, rfl⟩
    have Q2 := Aside0.mk hq
    clear hq
    go_upto_region 27 with (first
      | (go_at_call 14; (with_reducible refine (IsEvenEdges_any o2 (R2.out.alloc _) (E8.out.alloc _) (by omega) HE3.out Q2.out).mono ?_); rintro e w13 ⟨rfl, hb⟩; have Y := Aside0.mk (Gbox.new R2.out hb); have nE8 := Aside0.mk (E8.out.below (below_step (below_alloc (Below.refl _ _) _) hb)); have nHB := Aside0.mk (below_step HB.out (below_step (below_alloc (Below.refl _ _) _) hb)); clear E8 HB R2 hb; have E8 := nE8; clear nE8; have HB := nHB; clear nHB; obtain ⟨hY0, hY1⟩ := Y.out.cells)
      | (go_at_call 15; (with_reducible refine (specIsEvenEdges_any o2 Y.out.rd E8.out hE2 HE3.out Q2.out).mono ?_); rintro e w14 ⟨rfl, hb⟩; have nY := Aside0.mk (Y.out.below hb); have nE8 := Aside0.mk (E8.out.below hb); have nHB := Aside0.mk (below_step HB.out hb); clear Y E8 HB hb; (try clear hY0 hY1); have Y := nY; clear nY; have E8 := nE8; clear nE8; have HB := nHB; clear nHB; obtain ⟨hY0, hY1⟩ := Y.out.cells))
    clear Y hY0 hY1 E8 Q2 HE3 hE2
    go_upto_region 28 with (go_at_call 16; (with_reducible refine (DrawCountEvenCuts_any (H2.out.below HB.out)).mono ?_); rintro e w15 ⟨u3, m3, o3, rfl, hr, hb⟩; obtain ⟨A3, c3, rfl⟩ := hr.slice; have R3 := Aside0.mk hr.rd; clear hr; have nHB := Aside0.mk (below_step HB.out hb); clear  HB hb; have HB := nHB; clear nHB; )
    obtain ⟨⟨x3, k3⟩, hq⟩ : ∃ p, evenCutsR m3 = p := ⟨_, rfl⟩
    have Q3 := Aside0.mk hq
    clear hq
    go_upto_region 31 with (first
      | (go_at_call 17; (with_reducible refine (implCountEvenCuts_any o3 (R3.out.alloc _) Q3.out).mono ?_); rintro e w16 ⟨rfl, hb⟩; have Z := Aside0.mk (Gbox.new R3.out hb); have nHB := Aside0.mk (below_step HB.out (below_step (below_alloc (Below.refl _ _) _) hb)); clear  HB R3 hb; have HB := nHB; clear nHB; obtain ⟨hZ0, hZ1⟩ := Z.out.cells)
      | (go_at_call 18; (with_reducible refine (spec_CountEvenCuts.sem o3 Z.out.rd Q3.out).mono ?_); rintro e w17 ⟨rfl, hb⟩; have nZ := Aside0.mk (Z.out.below hb); have nHB := Aside0.mk (below_step HB.out hb); clear Z HB hb; (try clear hZ0 hZ1); have Z := nZ; clear nZ; have HB := nHB; clear nHB; obtain ⟨hZ0, hZ1⟩ := Z.out.cells)
      | (go_at_call 19; (with_reducible refine (DrawCountEvenEdges_any (H2.out.below HB.out)).mono ?_); rintro e w18 ⟨u4, m4, o4, rfl, hr, hb⟩; obtain ⟨A4, c4, rfl⟩ := hr.slice; have R4 := Aside0.mk hr.rd; clear hr; have nZ := Aside0.mk (Z.out.below hb); have nHB := Aside0.mk (below_step HB.out hb); clear Z HB hb; (try clear hZ0 hZ1); have Z := nZ; clear nZ; have HB := nHB; clear nHB; obtain ⟨hZ0, hZ1⟩ := Z.out.cells))
    obtain ⟨⟨x4, k4⟩, hq⟩ : ∃ p, evenEdgesR m4 = p := ⟨_, rfl⟩
    have Q4 := Aside0.mk hq
    clear hq
    cases k3
    · go_wp2_with (first
        | (go_at_call 20; (with_reducible refine (impl_CountEvenEdges.sem o4 (R4.out.alloc _) Q4.out).mono ?_); rintro e w19 ⟨rfl, hb⟩; have V := Aside0.mk (Gbox.new R4.out hb); have nHB := Aside0.mk (below_step HB.out (below_step (below_alloc (Below.refl _ _) _) hb)); clear  HB R4 hb; have HB := nHB; clear nHB; obtain ⟨hV0, hV1⟩ := V.out.cells)
        | (go_at_call 21; (with_reducible refine (spec_CountEvenEdges.sem o4 V.out.rd Q4.out).mono ?_); rintro e w20 ⟨rfl, hb⟩; have nV := Aside0.mk (V.out.below hb); have nHB := Aside0.mk (below_step HB.out hb); clear V HB hb; (try clear hV0 hV1); have V := nV; clear nV; have HB := nHB; clear nHB; obtain ⟨hV0, hV1⟩ := V.out.cells))
      go_ret
      exact ⟨rfl, HB.out⟩
    · obtain ⟨hg3, h10, hx3⟩ : good m3 = true ∧ m3.length ≤ 10 ∧ x3 = ((cuN m3 : Nat) : Int) := by
        have q := Q3.out
        unfold evenCutsR at q
        split at q
        · next h =>
          injection q with q _
          exact ⟨h.1, h.2, q.symm⟩
        · injection q with _ q
          cases q
      subst hx3
      have hG3 := (good_iff m3).1 hg3
      have hsh := cuts_shift hG3
      have hpl := (parts_inv (nbs_lt hG3) (nbs_sym hG3) m3.length (Nat.le_refl _)).len
      have hq0 := (svP_quiet hG3 0).2.1
      have Q5 := Aside0.mk (cnt_good 0 hg3)
      have HG3 := Aside0.mk hG3
      have HP3 := Aside0.mk (fun w' (hr : Rd w' (.slice A3 m3.length c3) m3) => PartsOf_rd o3 hr hG3)
      change (cuN m3) <<< _ = _ at hsh
      generalize (partsUp (nbs m3) m3.length m3.length).1.length = kp at *
      generalize (svP m3 0).quiet.length = qn at *
      generalize cuN m3 = cu at *
      rw [Nat.shiftLeft_eq] at hsh
      have hsx : ((cu : Int) * 2 ^ kp) = ((2 ^ qn : Nat) : Int) := by
        rw [← hsh, ← pow_cast]
        simp
      have hqs : (2 : Nat) ^ qn ≤ 2 ^ 16 := Nat.pow_le_pow_right (by decide) (by omega)
      have hsz : wrap64 ((cu : Int) * 2 ^ kp) = ((2 ^ qn : Nat) : Int) := by
        rw [hsx]
        generalize 2 ^ qn = z at hqs ⊢
        exact wrap_id (by omega) (by omega)
      have hsz2 : wrap64 ((cu : Int) * 2 ^ min kp 64) = ((2 ^ qn : Nat) : Int) := by
        rw [Nat.min_eq_left (by omega)]
        exact hsz
      generalize (2 : Nat) ^ qn = zq at *
      have HSZ := Aside0.mk hsz
      have HSZ2 := Aside0.mk hsz2
      have tz : ((zq : Int) == wrap64 ((cu : Int) * 2 ^ kp)) = true := by rw [hsz]; simp
      have tz2 : ((zq : Int) == wrap64 ((cu : Int) * 2 ^ min kp 64)) = true := by rw [hsz2]; simp
      clear hsh hsx hqs hsz hsz2 hg3 hG3 Q3
      go_wp2_with (first
        | (go_at_call 20; (with_reducible refine (impl_CountEvenEdges.sem o4 (R4.out.alloc _) Q4.out).mono ?_); rintro e w19 ⟨rfl, hb⟩; have V := Aside0.mk (Gbox.new R4.out hb); have nZ := Aside0.mk (Z.out.below (below_step (below_alloc (Below.refl _ _) _) hb)); have nHB := Aside0.mk (below_step HB.out (below_step (below_alloc (Below.refl _ _) _) hb)); clear Z HB R4 hb; (try clear hZ0 hZ1); have Z := nZ; clear nZ; have HB := nHB; clear nHB; obtain ⟨hV0, hV1⟩ := V.out.cells; obtain ⟨hZ0, hZ1⟩ := Z.out.cells)
        | (go_at_call 21; (with_reducible refine (spec_CountEvenEdges.sem o4 V.out.rd Q4.out).mono ?_); rintro e w20 ⟨rfl, hb⟩; clear V hV0 hV1; have nZ := Aside0.mk (Z.out.below hb); have nHB := Aside0.mk (below_step HB.out hb); clear Z HB hb; (try clear hZ0 hZ1); have Z := nZ; clear nZ; have HB := nHB; clear nHB; obtain ⟨hZ0, hZ1⟩ := Z.out.cells)
        | (go_at_call 22; (with_reducible refine (implCountEvenSplits_any o3 Z.out.rd Q5.out).mono ?_); rintro e w21 ⟨rfl, hb⟩; have nZ := Aside0.mk (Z.out.below hb); have nHB := Aside0.mk (below_step HB.out hb); clear Z HB hb; (try clear hZ0 hZ1); have Z := nZ; clear nZ; have HB := nHB; clear nHB; obtain ⟨hZ0, hZ1⟩ := Z.out.cells)
        | (go_at_call 23; (with_reducible refine (HP3.out _ Z.out.rd).mono ?_); rintro e w22 ⟨a9, c9, rfl, hb⟩; clear Z hZ0 hZ1; have nHB := Aside0.mk (below_step HB.out hb); clear  HB hb; have HB := nHB; clear nHB; ))
      go_ret
      exact ⟨rfl, HB.out⟩
theorem FnCutsAndEvenEdges_walk (a0 : Option Addr) (len0 cap0 : Nat) (z0 : List Int) (a1 : Option Addr) (len1 cap1 : Nat) (z1 : List Int) (w : World) (h0 : YtlohlngmagpepaaGr.IsRow .u8 w a0 len0 cap0 z0) (y0 : len0 * 1 ≤ 140737488351232) (h1 : YtlohlngmagpepaaGr.IsRow .u8 w a1 len1 cap1 z1) (y1 : len1 * 1 ≤ 140737488351232) :
    Calls Try.prog 3 #[.slice a0 len0 cap0, .slice a1 len1 cap1] w fun e w' => e = .returned (.bool true) ∧ Below w.heap.size w w' := by
  obtain ⟨l0, g0⟩ := Rb.row h0
  obtain ⟨l1, g1⟩ := Rb.row h1
  exact law_main g0 g1
end Go.Proofs.Ytlohlngmagpepaa.Draw
