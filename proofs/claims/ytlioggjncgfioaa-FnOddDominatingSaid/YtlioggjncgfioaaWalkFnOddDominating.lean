/- The walk of FnOddDominating: the call returns true and leaves memory as it was. Conditions: what its row lays. -/
import Derived.Test.YtlioggjncgfioaaPFnOddDominatingx
import Derived.Test.YtlioggjncgfioaaQFnOddDominating0
import Derived.Test.YtlioggjncgfioaaQFnOddDominating1
import Derived.Test.YtlioggjncgfioaaM1
import Derived.Test.YtlioggjncgfioaaM37
import Derived.Test.YtlioggjncgfioaaM38
import Derived.Test.YtlioggjncgfioaaM39
import Derived.WalkKit
import Derived.RowKit3
import Derived.Deep.QuietTactic
import Derived.BigQuiet
import Derived.Deep.DeepCutAuto
import Derived.Deep.CutBlock
import Derived.Deep.LoopGhost
import Derived.Outline
import Derived.Deep.DeepFit
import Derived.Test.YtlioggjncgfioaaDFnOddDominating0
import Derived.Test.YtlioggjncgfioaaDFnOddDominating1
import Derived.Test.YtlioggjncgfioaaDFnOddDominating2
import Derived.Test.YtlioggjncgfioaaDFnOddDominating3
import Derived.Test.YtlioggjncgfioaaDFnOddDominating4
import Derived.Test.YtlioggjncgfioaaDFnOddDominating5
import Derived.Test.YtlioggjncgfioaaDFnOddDominating6
import Derived.Test.YtlioggjncgfioaaDFnOddDominating7
namespace Go.Proofs.Ytlioggjncgfioaa.Draw
open Go.RowKit Go.Proofs.Ytlioggjncgfioaa.PFnOddDominating Go.Proofs.YtlioggjncgfioaaW.PrintWords Go.Proofs.YtlioggjncgfioaaW.PrintLast Go.Proofs.YtlioggjncgfioaaW.PrintMore Go.Proofs.YtlioggjncgfioaaM Go.Proofs.Ytlioggjncgfioaa.Pure
attribute [local go_sem] max2_int min2_int max_two min_two max_three min_three max_four min_four
set_option linter.unusedVariables false
set_option linter.unusedSimpArgs false
theorem oddCount_bad {l : List Int} (h : good l = false) : oddCountR l = (0, false) := by unfold oddCountR; rw [if_neg (by rw [h]; decide)]
theorem oddCount_good {l : List Int} (h : good l = true) : oddCountR l = (((2 ^ (svG l true).quiet.length : Nat) : Int), true) := by unfold oddCountR; rw [if_pos h]
theorem parts_bad {l : List Int} (h : good l = false) : partsR l = ([], false) := by unfold partsR; rw [if_neg (by rw [h]; decide)]
set_option maxRecDepth 100000 in
set_option maxHeartbeats 4000000 in
theorem law_main {W : World} {v v2 : Value} {l l2 : List Int} (h : Rb W v l) (h2 : Rb W v2 l2) : Calls Try.prog 6 #[v, v2] W fun e W' => e = .returned (.bool true) ∧ Below W.heap.size W W' := by
  have hu := Try.underlying29
  have HB := Aside0.mk (Below.refl W.heap.size W)
  have H1 := Aside0.mk h
  have H2 := Aside0.mk h2
  clear h h2
  go_enter Try.func6, Try.ntmps6
  go_upto_region 4 with (first
    | (go_at_call 7; refine (big_any H1.out H2.out).mono ?_; rintro e w1 ⟨nd, b, rfl, rfl⟩; have nHB := Aside0.mk (pw_below_drewN HB.out nd); clear HB; have HB := nHB; clear nHB)
    | (go_at_call 38; (with_reducible refine (DrawOddDominating_any (H1.out.below HB.out)).mono ?_); rintro e w2 ⟨u1, m, o, rfl, hr, hb⟩; obtain ⟨A1, c1, rfl⟩ := hr.slice; have R := Aside0.mk hr.rd; clear hr; have nHB := Aside0.mk (below_step HB.out hb); clear  HB hb; have HB := nHB; clear nHB; ))
  · go_ret
    exact ⟨rfl, HB.out⟩
  cases hbo : good m
  focus
    have r1 := (allR_bad (l := m) true 0 hbo).2
    have Q1 := Aside0.mk r1
    have Q2 := Aside0.mk (oddCount_bad hbo)
    have HG := Aside0.mk hbo
    clear r1 hbo
    go_upto_region 17 with (first
      | (go_at_call 39; (with_reducible refine (OddDominating_any o (R.out.alloc _) Q1.out).mono ?_); rintro e w3 ⟨rfl, hb⟩; have X := Aside0.mk (Gbox.new R.out hb); have nHB := Aside0.mk (below_step HB.out (below_step (below_alloc (Below.refl _ _) _) hb)); clear  HB R hb; have HB := nHB; clear nHB; obtain ⟨hX0, hX1⟩ := X.out.cells)
      | (go_at_call 40; (with_reducible refine (specOddDominating_any o X.out.rd Q1.out).mono ?_); rintro e w4 ⟨rfl, hb⟩; have nX := Aside0.mk (X.out.below hb); have nHB := Aside0.mk (below_step HB.out hb); clear X HB hb; (try clear hX0 hX1); have X := nX; clear nX; have HB := nHB; clear nHB; obtain ⟨hX0, hX1⟩ := X.out.cells)
      | (go_at_call 41; (with_reducible refine (CountOddDominating_any o X.out.rd Q2.out).mono ?_); rintro e w5 ⟨rfl, hb⟩; have nX := Aside0.mk (X.out.below hb); have nHB := Aside0.mk (below_step HB.out hb); clear X HB hb; (try clear hX0 hX1); have X := nX; clear nX; have HB := nHB; clear nHB; obtain ⟨hX0, hX1⟩ := X.out.cells)
      | (go_at_call 42; (with_reducible refine (specCountOddDominating_any o X.out.rd Q2.out).mono ?_); rintro e w6 ⟨rfl, hb⟩; have nX := Aside0.mk (X.out.below hb); have nHB := Aside0.mk (below_step HB.out hb); clear X HB hb; (try clear hX0 hX1); have X := nX; clear nX; have HB := nHB; clear nHB; obtain ⟨hX0, hX1⟩ := X.out.cells)
      | (go_at_call 21; (with_reducible refine (IsGraph_any o X.out.rd HG.out).mono ?_); rintro e w7 ⟨rfl, hb⟩; have nX := Aside0.mk (X.out.below hb); have nHB := Aside0.mk (below_step HB.out hb); clear X HB hb; (try clear hX0 hX1); have X := nX; clear nX; have HB := nHB; clear nHB; obtain ⟨hX0, hX1⟩ := X.out.cells))
  rotate_left
  focus
    have hG := (good_iff m).1 hbo
    obtain ⟨p, hp, r1, r2, r3⟩ := all_own hG
    have rc := count_own hG
    have ro := oddCount_good hbo
    have hql : (svG m true).quiet.length ≤ 16 := by
      have h1 := (inv_graph hG true).rq
      have h2 := hG.top
      show (svOf (togs m true)).quiet.length ≤ 16
      omega
    have hx : ((svOf (togs m true)).quiet.length : Int) = ((svG m true).quiet.length : Int) := rfl
    obtain ⟨q, hq⟩ : ∃ q, (svG m true).quiet.length = q := ⟨_, rfl⟩
    rw [hq] at rc ro hql hx
    have hm16 := hG.top
    have hz16 : (2 : Nat) ^ m.length ≤ 2 ^ 16 := Nat.pow_le_pow_right (by decide) hm16
    have hz1 := Nat.two_pow_pos m.length
    have hwz : wrap64 (2 ^ m.length) = ((2 ^ m.length : Nat) : Int) := by
      rw [← pow_cast]
      generalize 2 ^ m.length = z at hz16 ⊢
      exact wrap_id (by omega) (by omega)
    have hwz2 : IntKind.i64.wrap (2 ^ m.length) = ((2 ^ m.length : Nat) : Int) := by
      rw [← pow_cast]
      generalize 2 ^ m.length = z at hz16 ⊢
      exact wraps_i64 _ (by omega) (by omega)
    obtain ⟨y, hy⟩ : ∃ y : Nat, 2 ^ m.length - 1 = y := ⟨_, rfl⟩
    rw [hy] at r2 rc
    generalize (2 : Nat) ^ m.length = z at hz16 hz1 hwz hwz2 hy
    have hwy : wrap64 ((z : Int) - 1) = (y : Int) := by rw [wrap_id (by omega) (by omega)]; omega
    have hwy2 : IntKind.i64.wrap ((z : Int) - 1) = (y : Int) := (wraps_i64 _ (by omega) (by omega)).trans (by omega)
    have t1 : ((y : Int) != wrap64 (wrap64 (2 ^ m.length) - 1)) = false := by rw [hwz, hwy]; simp
    have hq16 : (2 : Nat) ^ q ≤ 2 ^ 16 := Nat.pow_le_pow_right (by decide) hql
    have hwq : wrap64 (2 ^ q) = ((2 ^ q : Nat) : Int) := by
      rw [← pow_cast]
      generalize 2 ^ q = z at hq16 ⊢
      exact wrap_id (by omega) (by omega)
    generalize (2 : Nat) ^ q = zq at hq16 hwq rc ro
    have t2 : ((zq : Int) != wrap64 (2 ^ q)) = false := by rw [hwq]; simp
    have Q1 := Aside0.mk r1
    have Q2 := Aside0.mk ro
    have Q3 := Aside0.mk r2
    have Q4 := Aside0.mk rc
    have QX := Aside0.mk hx
    have HG := Aside0.mk hbo
    clear hG r1 r2 r3 rc ro hx hbo hz16 hz1 hy hq16 hq hp
    go_upto_region 13 with (first
      | (go_at_call 39; (with_reducible refine (OddDominating_any o (R.out.alloc _) Q1.out).mono ?_); rintro e w3 ⟨rfl, hb⟩; have X := Aside0.mk (Gbox.new R.out hb); have nHB := Aside0.mk (below_step HB.out (below_step (below_alloc (Below.refl _ _) _) hb)); clear  HB R hb; have HB := nHB; clear nHB; obtain ⟨hX0, hX1⟩ := X.out.cells)
      | (go_at_call 40; (with_reducible refine (specOddDominating_any o X.out.rd Q1.out).mono ?_); rintro e w4 ⟨rfl, hb⟩; have nX := Aside0.mk (X.out.below hb); have nHB := Aside0.mk (below_step HB.out hb); clear X HB hb; (try clear hX0 hX1); have X := nX; clear nX; have HB := nHB; clear nHB; obtain ⟨hX0, hX1⟩ := X.out.cells)
      | (go_at_call 41; (with_reducible refine (CountOddDominating_any o X.out.rd Q2.out).mono ?_); rintro e w5 ⟨rfl, hb⟩; have nX := Aside0.mk (X.out.below hb); have nHB := Aside0.mk (below_step HB.out hb); clear X HB hb; (try clear hX0 hX1); have X := nX; clear nX; have HB := nHB; clear nHB; obtain ⟨hX0, hX1⟩ := X.out.cells)
      | (go_at_call 42; (with_reducible refine (specCountOddDominating_any o X.out.rd Q2.out).mono ?_); rintro e w6 ⟨rfl, hb⟩; have nX := Aside0.mk (X.out.below hb); have nHB := Aside0.mk (below_step HB.out hb); clear X HB hb; (try clear hX0 hX1); have X := nX; clear nX; have HB := nHB; clear nHB; obtain ⟨hX0, hX1⟩ := X.out.cells)
      | (go_at_call 21; (with_reducible refine (IsGraph_any o X.out.rd HG.out).mono ?_); rintro e w7 ⟨rfl, hb⟩; have nX := Aside0.mk (X.out.below hb); have nHB := Aside0.mk (below_step HB.out hb); clear X HB hb; (try clear hX0 hX1); have X := nX; clear nX; have HB := nHB; clear nHB; obtain ⟨hX0, hX1⟩ := X.out.cells)
      | (go_at_call 22; (with_reducible refine (WithOwn_any o true X.out.rd HG.out).mono ?_); rintro e w8 ⟨u9, o9, rfl, hr0, hb⟩; have hr1 := hr0 (Eq.refl true); clear hr0; obtain ⟨h9, hr⟩ := hr1; subst h9; obtain ⟨A9, c9, rfl⟩ := hr.slice; have R9 := Aside0.mk hr.rd; clear hr; have nX := Aside0.mk (X.out.below hb); have nHB := Aside0.mk (below_step HB.out hb); clear X HB hb; (try clear hX0 hX1); have X := nX; clear nX; have HB := nHB; clear nHB; obtain ⟨hX0, hX1⟩ := X.out.cells)
      | (go_at_call 23; (with_reducible refine (impl_EffectOf.sem true (p : Int) (R9.out.alloc _) Q3.out).mono ?_); rintro e w9 ⟨rfl, hb⟩; have O := Aside0.mk (Gbox.new R9.out hb); have nX := Aside0.mk (X.out.below (below_step (below_alloc (Below.refl _ _) _) hb)); have nHB := Aside0.mk (below_step HB.out (below_step (below_alloc (Below.refl _ _) _) hb)); clear X HB R9 hb; (try clear hX0 hX1); have X := nX; clear nX; have HB := nHB; clear nHB; obtain ⟨hO0, hO1⟩ := O.out.cells; obtain ⟨hX0, hX1⟩ := X.out.cells))
    go_region_held3 (fun w' => w'.cell? ⟨w2.heap.size, 0, none⟩ = some (.slice A1 m.length c1) ∧ w'.cell? ⟨w2.heap.size, 1, none⟩ = some (.bool o) ∧ w'.cell? ⟨w8.heap.size, 0, none⟩ = some (.slice A9 m.length c9) ∧ w'.cell? ⟨w8.heap.size, 1, none⟩ = some (.bool true)) (first | exact ⟨hX0, hX1, hO0, hO1⟩ | go_keep) (first | (go_at_call 34; (with_reducible refine (CountSolutions_any true (y : Int) (O.out.below (below_drew1 (Below.refl _ _))).rd Q4.out).mono ?_); rintro e w10 ⟨rfl, hb0⟩; have hb := below_step (below_drew1 (Below.refl w9.heap.size w9)) hb0; clear hb0; have nX := Aside0.mk (X.out.below hb); have nO := Aside0.mk (O.out.below hb); have nHB := Aside0.mk (below_step HB.out hb); clear X O HB hb; (try clear hX0 hX1); (try clear hO0 hO1); have X := nX; clear nX; have O := nO; clear nO; have HB := nHB; clear nHB; obtain ⟨hX0, hX1⟩ := X.out.cells; obtain ⟨hO0, hO1⟩ := O.out.cells))
    go_upto_region 17 with (go_at_call 15; (with_reducible refine (NullityOf_any true O.out.rd HG.out ((if_pos rfl).trans QX.out)).mono ?_); rintro e w11 ⟨rfl, hb⟩; have nX := Aside0.mk (X.out.below hb); have nO := Aside0.mk (O.out.below hb); have nHB := Aside0.mk (below_step HB.out hb); clear X O HB hb; (try clear hX0 hX1); (try clear hO0 hO1); have X := nX; clear nX; have O := nO; clear nO; have HB := nHB; clear nHB; obtain ⟨hX0, hX1⟩ := X.out.cells; obtain ⟨hO0, hO1⟩ := O.out.cells)
  all_goals
    clear X hX0 hX1 Q1 Q2 HG H1
    try clear O hO0 hO1 t1 t2 hwz hwz2 hwy hwy2 hwq hm16 hql Q3 Q4 QX
    go_upto_region 18 with (go_at_call 43; (with_reducible refine (DrawPartsOf_any (H2.out.below HB.out)).mono ?_); rintro e w12 ⟨u2, m2, o2, rfl, hr, hb⟩; obtain ⟨A2, c2, rfl⟩ := hr.slice; have R2 := Aside0.mk hr.rd; clear hr; have nHB := Aside0.mk (below_step HB.out hb); clear  HB hb; have HB := nHB; clear nHB; )
    cases hb2 : good m2
    · have P1 := Aside0.mk (parts_bad hb2)
      clear hb2
      go_wp2_with (first
        | (go_at_call 44; (with_reducible refine (impl_PartsOf.sem o2 (R2.out.alloc _) P1.out).mono ?_); rintro e w13 ⟨u5, rfl, hn, hb⟩; obtain ⟨A5, c5, h5⟩ := hn.slice; rw [show ([] : List Int).length = 0 from rfl] at h5; subst h5; have R5 := Aside0.mk hn.rd; clear hn; have Y := Aside0.mk (Gbox.new R2.out hb); have nHB := Aside0.mk (below_step HB.out (below_step (below_alloc (Below.refl _ _) _) hb)); clear  HB R2 hb; have HB := nHB; clear nHB; obtain ⟨hY0, hY1⟩ := Y.out.cells)
        | (go_at_call 45; (with_reducible refine (spec_PartsOf.sem o2 Y.out.rd P1.out).mono ?_); rintro e w14 ⟨u6, rfl, hn, hb⟩; obtain ⟨A6, c6, h6⟩ := hn.slice; rw [show ([] : List Int).length = 0 from rfl] at h6; subst h6; have R6 := Aside0.mk hn.rd; clear hn; have nY := Aside0.mk (Y.out.below hb); have nR5 := Aside0.mk (R5.out.below hb); have nHB := Aside0.mk (below_step HB.out hb); clear Y R5 HB hb; (try clear hY0 hY1); have Y := nY; clear nY; have R5 := nR5; clear nR5; have HB := nHB; clear nHB; obtain ⟨hY0, hY1⟩ := Y.out.cells)
        | (go_at_call 46; (with_reducible refine (hSame_sem R5.out R6.out true (by simp)).mono ?_); rintro e w15 ⟨rfl, hb⟩; have nY := Aside0.mk (Y.out.below hb); have nR5 := Aside0.mk (R5.out.below hb); have nHB := Aside0.mk (below_step HB.out hb); clear Y R5 HB hb; (try clear hY0 hY1); have Y := nY; clear nY; have R5 := nR5; clear nR5; have HB := nHB; clear nHB; obtain ⟨hY0, hY1⟩ := Y.out.cells))
      go_ret
      exact ⟨rfl, HB.out⟩
    · have hG := (good_iff m2).1 hb2
      obtain ⟨ps, hp, hpl, hall, heach⟩ := parts_law hG
      have hm16 := hG.top
      have hz16 : (2 : Nat) ^ m2.length ≤ 2 ^ 16 := Nat.pow_le_pow_right (by decide) hm16
      have hz1 := Nat.two_pow_pos m2.length
      have hwz : wrap64 (2 ^ m2.length) = ((2 ^ m2.length : Nat) : Int) := by
        rw [← pow_cast]
        generalize 2 ^ m2.length = z at hz16 ⊢
        exact wrap_id (by omega) (by omega)
      have hlt16 : ∀ x : Nat, x < 2 ^ m2.length → x < 65536 := fun x hx => by omega
      obtain ⟨y, hy⟩ : ∃ y : Nat, 2 ^ m2.length - 1 = y := ⟨_, rfl⟩
      rw [hy] at hall
      have hwy : wrap64 (((2 ^ m2.length : Nat) : Int) - 1) = (y : Int) := by rw [wrap_id (by omega) (by omega)]; omega
      have t3 : ((y : Int) == wrap64 (wrap64 (2 ^ m2.length) - 1)) = true := by rw [hwz, hwy]; simp
      have P1 := Aside0.mk hp
      have HA := Aside0.mk hall
      have HE := Aside0.mk heach
      have HL := Aside0.mk hlt16
      have HGG := Aside0.mk hG
      clear hp hall heach hlt16 hG hb2 hz16 hz1 hwz hwy hy
      go_wp2_with (first
        | (go_at_call 44; (with_reducible refine (impl_PartsOf.sem o2 (R2.out.alloc _) P1.out).mono ?_); rintro e w13 ⟨u5, rfl, hn, hb⟩; obtain ⟨A5, c5, h5⟩ := hn.slice; rw [ints_length] at h5; subst h5; have R5 := Aside0.mk hn.rd; clear hn; have Y := Aside0.mk (Gbox.new R2.out hb); have nHB := Aside0.mk (below_step HB.out (below_step (below_alloc (Below.refl _ _) _) hb)); clear  HB R2 hb; have HB := nHB; clear nHB; obtain ⟨hY0, hY1⟩ := Y.out.cells)
        | (go_at_call 45; (with_reducible refine (spec_PartsOf.sem o2 Y.out.rd P1.out).mono ?_); rintro e w14 ⟨u6, rfl, hn, hb⟩; obtain ⟨A6, c6, h6⟩ := hn.slice; rw [ints_length] at h6; subst h6; have R6 := Aside0.mk hn.rd; clear hn; have nY := Aside0.mk (Y.out.below hb); have nR5 := Aside0.mk (R5.out.below hb); have nHB := Aside0.mk (below_step HB.out hb); clear Y R5 HB hb; (try clear hY0 hY1); have Y := nY; clear nY; have R5 := nR5; clear nR5; have HB := nHB; clear nHB; obtain ⟨hY0, hY1⟩ := Y.out.cells)
        | (go_at_call 46; (with_reducible refine (hSame_sem R5.out R6.out true (by simp)).mono ?_); rintro e w15 ⟨rfl, hb⟩; have nY := Aside0.mk (Y.out.below hb); have nR5 := Aside0.mk (R5.out.below hb); have nHB := Aside0.mk (below_step HB.out hb); clear Y R5 HB hb; (try clear hY0 hY1); have Y := nY; clear nY; have R5 := nR5; clear nR5; have HB := nHB; clear nHB; obtain ⟨hY0, hY1⟩ := Y.out.cells))
      go_loopw [27, 171] (fun v27 v171 wr => ∃ k : Nat, k ≤ ps.length ∧ v171 = .int .i64 (k : Int) ∧ v27 = .int .i64 ((orAll (ps.take k) : Nat) : Int) ∧ Aside0 (Rd wr (.slice A5 ps.length c5) (ints ps)) ∧ Aside0 (Gbox wr w12.heap.size (.slice A2 m2.length c2) o2 m2) ∧ Aside0 (Below W.heap.size W wr)) (fun _ v171 _ => ps.length - (intOf v171).toNat)
      case atStart => exact ⟨0, Nat.zero_le _, rfl, rfl, R5, Y, HB⟩
      case round =>
        clear R5 Y HB hY0 hY1 R6
        obtain ⟨k, hk, rfl, rfl, R5, Y, HB⟩ := hrel
        obtain ⟨hY0, hY1⟩ := Y.out.cells
        by_cases hlt : k < ps.length
        · obtain ⟨he1, he2, he3, he4, he5⟩ := HE.out k hlt
          have htk := orAll_take hlt
          obtain ⟨ad, e1, hc_⟩ := R5.out.cell (k : Int) (by omega) (by first | omega | (rw [ints_length]; omega))
          subst e1
          clear hc_
          have hcell := R5.out.cellN k (by first | omega | (rw [ints_length]; omega))
          rw [ints_get ps k hlt] at hcell
          have ha16 := HL.out _ he2
          have hp16 := HL.out _ he4
          obtain ⟨x, hx⟩ : ∃ x, ps[k] = x := ⟨_, rfl⟩
          obtain ⟨a, ha⟩ : ∃ a, orAll (ps.take k) = a := ⟨_, rfl⟩
          rw [hx] at he1 he3 he4 he5 htk hcell hp16
          rw [ha] at he1 he2 htk ha16
          rw [ha]
          have xand : Go.bits .and .i64 (a : Int) (x : Int) = 0 := by rw [and_nat a x (by omega) (by omega), he1]; rfl
          have xor_ : Go.bits .or .i64 (a : Int) (x : Int) = ((a ||| x : Nat) : Int) := or_nat a x (by omega) (by omega)
          have t4 : ((x : Int) == 0) = false := by simp; omega
          have HTK := Aside0.mk htk
          have HC := Aside0.mk he5
          have H4 := Aside0.mk he4
          clear htk he5 he4 he1 he2 he3 hx ha
          go_wp2_with (go_at_call 47; (with_reducible refine (CutOf_any o2 Y.out.rd HGG.out H4.out HC.out).mono ?_); rintro e w16 ⟨a7, c7, rfl, hb⟩; (try clear hcell); have nY := Aside0.mk (Y.out.below hb); have nR5 := Aside0.mk (R5.out.below hb); have nHB := Aside0.mk (below_step HB.out hb); clear Y R5 HB hb; (try clear hY0 hY1); have Y := nY; clear nY; have R5 := nR5; clear nR5; have HB := nHB; clear nHB; obtain ⟨hY0, hY1⟩ := Y.out.cells)
          go_roundw
          case rel => exact ⟨k + 1, by omega, by go_num, by rw [HTK.out], R5, Y, HB⟩
          case measure => simp [intOf]; omega
        · have e5 : ps.take k = ps := List.take_of_length_le (by omega)
          rw [e5, HA.out]
          go_wp2
          go_ret
          exact ⟨rfl, HB.out⟩
theorem FnOddDominating_walk (a0 : Option Addr) (len0 cap0 : Nat) (z0 : List Int) (a1 : Option Addr) (len1 cap1 : Nat) (z1 : List Int) (w : World) (h0 : YtlioggjncgfioaaGr.IsRow .u8 w a0 len0 cap0 z0) (y0 : len0 * 1 ≤ 140737488351232) (h1 : YtlioggjncgfioaaGr.IsRow .u8 w a1 len1 cap1 z1) (y1 : len1 * 1 ≤ 140737488351232) :
    Calls Try.prog 6 #[.slice a0 len0 cap0, .slice a1 len1 cap1] w fun e w' => e = .returned (.bool true) ∧ Below w.heap.size w w' := by
  obtain ⟨l0, g0⟩ := Rb.row h0
  obtain ⟨l1, g1⟩ := Rb.row h1
  exact law_main g0 g1
end Go.Proofs.Ytlioggjncgfioaa.Draw
