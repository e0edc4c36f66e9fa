/- The walk of FnAllOnSolved: the call returns true and leaves memory as it was. Conditions: what its row lays. -/
import Derived.Test.YtlioggjncgfioaaPFnAllOnSolvedx
import Derived.Test.YtlioggjncgfioaaQFnAllOnSolved0
import Derived.Test.YtlioggjncgfioaaQFnAllOnSolved1
import Derived.Test.YtlioggjncgfioaaM1
import Derived.Test.YtlioggjncgfioaaM30
import Derived.WalkKit
import Derived.RowKit3
import Derived.Deep.QuietTactic
import Derived.BigQuiet
import Derived.Deep.DeepCutAuto
import Derived.Deep.CutBlock
import Derived.Deep.LoopGhost
import Derived.Outline
import Derived.Deep.DeepFit
import Derived.Test.YtlioggjncgfioaaDFnAllOnSolved0
import Derived.Test.YtlioggjncgfioaaDFnAllOnSolved1
import Derived.Test.YtlioggjncgfioaaDFnAllOnSolved2
import Derived.Test.YtlioggjncgfioaaDFnAllOnSolved3
import Derived.Test.YtlioggjncgfioaaDFnAllOnSolved4
namespace Go.Proofs.Ytlioggjncgfioaa.Draw
open Go.RowKit Go.Proofs.Ytlioggjncgfioaa.PFnAllOnSolved Go.Proofs.YtlioggjncgfioaaW.PrintWords Go.Proofs.YtlioggjncgfioaaW.PrintLast Go.Proofs.YtlioggjncgfioaaW.PrintMore Go.Proofs.YtlioggjncgfioaaM Go.Proofs.Ytlioggjncgfioaa.Pure
attribute [local go_sem] max2_int min2_int max_two min_two max_three min_three max_four min_four
set_option linter.unusedVariables false
set_option linter.unusedSimpArgs false
set_option maxRecDepth 100000 in
set_option maxHeartbeats 4000000 in
theorem law_main {W : World} {v v2 : Value} {l l2 : List Int} (h : Rb W v l) (h2 : Rb W v2 l2) : Calls Try.prog 4 #[v, v2] W fun e W' => e = .returned (.bool true) ∧ Below W.heap.size W W' := by
  have hu := Try.underlying29
  have HB := Aside0.mk (Below.refl W.heap.size W)
  have H1 := Aside0.mk h
  have H2 := Aside0.mk h2
  clear h h2
  go_enter Try.func4, Try.ntmps4
  go_upto_region 4 with (first
    | (go_at_call 7; refine (big_any H1.out H2.out).mono ?_; rintro e w1 ⟨nd, b, rfl, rfl⟩; have nHB := Aside0.mk (pw_below_drewN HB.out nd); clear HB; have HB := nHB; clear nHB)
    | (go_at_call 18; (with_reducible refine (DrawAllOn_any (H1.out.below HB.out)).mono ?_); rintro e w2 ⟨u1, m, o, rfl, hr, hb⟩; obtain ⟨A1, c1, rfl⟩ := hr.slice; have R := Aside0.mk hr.rd; clear hr; have nHB := Aside0.mk (below_step HB.out hb); clear  HB hb; have HB := nHB; clear nHB; ))
  · go_ret
    exact ⟨rfl, HB.out⟩
  cases hbo : good m
  · have r1 := (allR_bad o 0 hbo).2
    have Q1 := Aside0.mk r1
    have HG := Aside0.mk hbo
    clear r1 hbo
    go_wp2_with (first
      | (go_at_call 19; (with_reducible refine (AllOn_any o (R.out.alloc _) Q1.out).mono ?_); rintro e w3 ⟨rfl, hb⟩; have X := Aside0.mk (Gbox.new R.out hb); have nHB := Aside0.mk (below_step HB.out (below_step (below_alloc (Below.refl _ _) _) hb)); clear  HB R hb; have HB := nHB; clear nHB; obtain ⟨hX0, hX1⟩ := X.out.cells)
      | (go_at_call 20; (with_reducible refine (spec_AllOn.sem o X.out.rd Q1.out).mono ?_); rintro e w4 ⟨rfl, hb⟩; have nX := Aside0.mk (X.out.below hb); have nHB := Aside0.mk (below_step HB.out hb); clear X HB hb; (try clear hX0 hX1); have X := nX; clear nX; have HB := nHB; clear nHB; obtain ⟨hX0, hX1⟩ := X.out.cells)
      | (go_at_call 21; (with_reducible refine (IsGraph_any o X.out.rd HG.out).mono ?_); rintro e w5 ⟨rfl, hb⟩; have nX := Aside0.mk (X.out.below hb); have nHB := Aside0.mk (below_step HB.out hb); clear X HB hb; (try clear hX0 hX1); have X := nX; clear nX; have HB := nHB; clear nHB; obtain ⟨hX0, hX1⟩ := X.out.cells))
    go_ret
    exact ⟨rfl, HB.out⟩
  · have hG := (good_iff m).1 hbo
    obtain ⟨p, hp, r1, r2, r3⟩ := all_own hG
    obtain ⟨⟨x0, k0⟩, hq0⟩ : ∃ r, allR m o = r := ⟨_, rfl⟩
    have hk0 : o = true → k0 = true := fun e => by
      subst e
      rw [r1] at hq0
      injection hq0 with _ e
      exact e.symm
    have Q0 := Aside0.mk hq0
    have Q1 := Aside0.mk r1
    have Q2 := Aside0.mk r2
    have Q3 := Aside0.mk r3
    have HG := Aside0.mk hbo
    have HGG := Aside0.mk hG
    have HE := Aside0.mk (basis_even hG)
    have hql : (svG m true).quiet.length ≤ 16 := by
      have h1 := (inv_graph hG true).rq
      have h2 := hG.top
      show (svOf (togs m true)).quiet.length ≤ 16
      omega
    have h16 : (2 : Nat) ^ m.length ≤ 2 ^ 16 := Nat.pow_le_pow_right (by decide) hG.top
    have t1 : (((2 ^ m.length - 1 : Nat) : Int) != wrap64 (wrap64 (2 ^ min m.length 64) - 1)) = false := by
      have h2 := hG.top
      have h3 := Nat.two_pow_pos m.length
      rw [Nat.min_eq_left (by omega), ← pow_cast]
      generalize 2 ^ m.length = k at h16 h3 ⊢
      rw [wrap_id (x := (k : Int)) (by omega) (by omega), wrap_id (by omega) (by omega)]
      simp
      omega
    clear hq0 r1 r2 r3 hbo hG
    cases k0
    all_goals
      go_wp2_with (first
        | (go_at_call 19; (with_reducible refine (AllOn_any o (R.out.alloc _) Q0.out).mono ?_); rintro e w3 ⟨rfl, hb⟩; have X := Aside0.mk (Gbox.new R.out hb); have nHB := Aside0.mk (below_step HB.out (below_step (below_alloc (Below.refl _ _) _) hb)); clear  HB R hb; have HB := nHB; clear nHB; obtain ⟨hX0, hX1⟩ := X.out.cells)
        | (go_at_call 20; (with_reducible refine (spec_AllOn.sem o X.out.rd Q0.out).mono ?_); rintro e w4 ⟨rfl, hb⟩; have nX := Aside0.mk (X.out.below hb); have nHB := Aside0.mk (below_step HB.out hb); clear X HB hb; (try clear hX0 hX1); have X := nX; clear nX; have HB := nHB; clear nHB; obtain ⟨hX0, hX1⟩ := X.out.cells)
        | (go_at_call 21; (with_reducible refine (IsGraph_any o X.out.rd HG.out).mono ?_); rintro e w5 ⟨rfl, hb⟩; have nX := Aside0.mk (X.out.below hb); have nHB := Aside0.mk (below_step HB.out hb); clear X HB hb; (try clear hX0 hX1); have X := nX; clear nX; have HB := nHB; clear nHB; obtain ⟨hX0, hX1⟩ := X.out.cells)
        | (go_at_call 22; (with_reducible refine (WithOwn_any o true X.out.rd HG.out).mono ?_); rintro e w6 ⟨u9, o9, rfl, hr0, hb⟩; have hr1 := hr0 (Eq.refl true); clear hr0; obtain ⟨h9, hr⟩ := hr1; subst h9; obtain ⟨A9, c9, rfl⟩ := hr.slice; have R9 := Aside0.mk hr.rd; clear hr; have nX := Aside0.mk (X.out.below hb); have nHB := Aside0.mk (below_step HB.out hb); clear X HB hb; (try clear hX0 hX1); have X := nX; clear nX; have HB := nHB; clear nHB; obtain ⟨hX0, hX1⟩ := X.out.cells)
        | (go_at_call 19; (with_reducible refine (AllOn_any true (R9.out.alloc _) Q1.out).mono ?_); rintro e w7 ⟨rfl, hb⟩; have O := Aside0.mk (Gbox.new R9.out hb); have nX := Aside0.mk (X.out.below (below_step (below_alloc (Below.refl _ _) _) hb)); have nHB := Aside0.mk (below_step HB.out (below_step (below_alloc (Below.refl _ _) _) hb)); clear X HB R9 hb; (try clear hX0 hX1); have X := nX; clear nX; have HB := nHB; clear nHB; obtain ⟨hO0, hO1⟩ := O.out.cells; obtain ⟨hX0, hX1⟩ := X.out.cells)
        | (go_at_call 23; (with_reducible refine (impl_EffectOf.sem true (p : Int) O.out.rd Q2.out).mono ?_); rintro e w8 ⟨rfl, hb⟩; have nX := Aside0.mk (X.out.below hb); have nO := Aside0.mk (O.out.below hb); have nHB := Aside0.mk (below_step HB.out hb); clear X O HB hb; (try clear hX0 hX1); (try clear hO0 hO1); have X := nX; clear nX; have O := nO; clear nO; have HB := nHB; clear nHB; obtain ⟨hX0, hX1⟩ := X.out.cells; obtain ⟨hO0, hO1⟩ := O.out.cells)
        | (go_at_call 24; (with_reducible refine (QuietBasis_any true O.out.rd HG.out).mono ?_); rintro e w9 ⟨u5, rfl, hq, hb⟩; obtain ⟨A5, c5, h5⟩ := (hq rfl).slice; rw [ints_length] at h5; subst h5; have RQ := Aside0.mk (hq rfl); clear hq; have nX := Aside0.mk (X.out.below hb); have nO := Aside0.mk (O.out.below hb); have nHB := Aside0.mk (below_step HB.out hb); clear X O HB hb; (try clear hX0 hX1); (try clear hO0 hO1); have X := nX; clear nX; have O := nO; clear nO; have HB := nHB; clear nHB; obtain ⟨hX0, hX1⟩ := X.out.cells; obtain ⟨hO0, hO1⟩ := O.out.cells))
      generalize (svG m true).quiet = q at *
      go_loopw [95] (fun v95 wr => ∃ j : Nat, j ≤ q.length ∧ v95 = .int .i64 (j : Int) ∧ Aside0 (Rd wr (.slice A5 q.length c5) (ints q)) ∧ Aside0 (Gbox wr w2.heap.size (.slice A1 m.length c1) o m) ∧ Aside0 (Gbox wr w6.heap.size (.slice A9 m.length c9) true m) ∧ Aside0 (Below W.heap.size W wr)) (fun v95 _ => q.length - (intOf v95).toNat)
      case atStart => exact ⟨0, Nat.zero_le _, rfl, RQ, X, O, HB⟩
      case round =>
        clear RQ X O HB hX0 hX1 hO0 hO1
        obtain ⟨j, hj, rfl, RQ, X, O, HB⟩ := hrel
        obtain ⟨hX0, hX1⟩ := X.out.cells
        obtain ⟨hO0, hO1⟩ := O.out.cells
        by_cases hlt : j < q.length
        · obtain ⟨ad, e1, hc_⟩ := RQ.out.cell (j : Int) (by omega) (by first | omega | (rw [ints_length]; omega))
          subst e1
          clear hc_
          have hcell := RQ.out.cellN j (by first | omega | (rw [ints_length]; omega))
          rw [ints_get q j hlt] at hcell
          obtain ⟨hb1, hb2⟩ := HE.out q[j] (List.getElem_mem hlt)
          have hG16 := HGG.out.top
          generalize q[j] = b at *
          have t2 : ((Int.tmod ((pop b : Nat) : Int) 2) == 1) = false := by
            show ((((pop b) % 2 : Nat) : Int) == 1) = false
            rw [hb2]
            rfl
          go_wp2_with (go_at_call 25; (with_reducible refine (vSize_sem b m.length (by omega) hb1).mono ?_); rintro e w10 ⟨rfl, hb⟩; (try clear hcell); have nX := Aside0.mk (X.out.below hb); have nO := Aside0.mk (O.out.below hb); have nRQ := Aside0.mk (RQ.out.below hb); have nHB := Aside0.mk (below_step HB.out hb); clear X O RQ HB hb; (try clear hX0 hX1); (try clear hO0 hO1); have X := nX; clear nX; have O := nO; clear nO; have RQ := nRQ; clear nRQ; have HB := nHB; clear nHB; obtain ⟨hX0, hX1⟩ := X.out.cells; obtain ⟨hO0, hO1⟩ := O.out.cells)
          go_roundw
          case rel => exact ⟨j + 1, by omega, by go_num, RQ, X, O, HB⟩
          case measure => simp [intOf]; omega
        · go_wp2
          go_loopw [107] (fun v107 wr => ∃ i : Nat, i ≤ m.length ∧ v107 = .int .i64 (i : Int) ∧ Aside0 (Gbox wr w2.heap.size (.slice A1 m.length c1) o m) ∧ Aside0 (Gbox wr w6.heap.size (.slice A9 m.length c9) true m) ∧ Aside0 (Below W.heap.size W wr)) (fun v107 _ => m.length - (intOf v107).toNat)
          case atStart => exact ⟨0, Nat.zero_le _, rfl, X, O, HB⟩
          case round =>
            clear X O HB hX0 hX1 hO0 hO1 RQ
            obtain ⟨i, hi, rfl, X, O, HB⟩ := hrel
            obtain ⟨hX0, hX1⟩ := X.out.cells
            obtain ⟨hO0, hO1⟩ := O.out.cells
            by_cases hlt : i < m.length
            · have hG16 := HGG.out.top
              have htb := togg_bounds m true HGG.out i hlt
              have hc := pow_cast m.length
              have h3 := Q3.out i hlt
              obtain ⟨t, ht⟩ : ∃ t : Nat, togg m true i = (t : Int) := ⟨(togg m true i).toNat, by omega⟩
              have htt : togglesOf m true (i : Int) = ((t : Int), true) := by
                unfold togglesOf isBtn
                rw [HG.out, Int.toNat_natCast, ht]
                simp
                omega
              have QT := Aside0.mk htt
              rw [ht, Int.toNat_natCast] at h3
              have hpt : t < 65536 := by omega
              have hpp : p < 65536 := by omega
              have ea := and_nat t p (by omega) (by omega)
              have hand : t &&& p < 2 ^ 16 := Nat.lt_of_le_of_lt Nat.and_le_left (by omega)
              have t3 : ((pop (t &&& p) : Int) % 2 != 1) = false := by
                rw [show (pop (t &&& p) : Int) % 2 = ((pop (t &&& p) % 2 : Nat) : Int) by omega, h3]
                rfl
              clear htt ht hc htb h3
              go_wp2_with (first
                | (go_at_call 26; (with_reducible refine (impl_TogglesOf.sem true (i : Int) O.out.rd QT.out).mono ?_); rintro e w11 ⟨rfl, hb⟩; have nX := Aside0.mk (X.out.below hb); have nO := Aside0.mk (O.out.below hb); have nHB := Aside0.mk (below_step HB.out hb); clear X O HB hb; (try clear hX0 hX1); (try clear hO0 hO1); have X := nX; clear nX; have O := nO; clear nO; have HB := nHB; clear nHB; obtain ⟨hX0, hX1⟩ := X.out.cells; obtain ⟨hO0, hO1⟩ := O.out.cells)
                | (go_at_call 25; (with_reducible refine (vSize_sem (t &&& p) 16 (by omega) hand).mono ?_); rintro e w12 ⟨rfl, hb⟩; have nX := Aside0.mk (X.out.below hb); have nO := Aside0.mk (O.out.below hb); have nHB := Aside0.mk (below_step HB.out hb); clear X O HB hb; (try clear hX0 hX1); (try clear hO0 hO1); have X := nX; clear nX; have O := nO; clear nO; have HB := nHB; clear nHB; obtain ⟨hX0, hX1⟩ := X.out.cells; obtain ⟨hO0, hO1⟩ := O.out.cells))
              go_roundw
              case rel => exact ⟨i + 1, by omega, by go_num, X, O, HB⟩
              case measure => simp [intOf]; omega
            · cases o
              · go_wp2
                go_ret
                exact ⟨rfl, HB.out⟩
              · (try exact absurd (hk0 rfl) (by decide))
                all_goals
                  go_wp2
                  go_ret
                  exact ⟨rfl, HB.out⟩
theorem FnAllOnSolved_walk (a0 : Option Addr) (len0 cap0 : Nat) (z0 : List Int) (a1 : Option Addr) (len1 cap1 : Nat) (z1 : List Int) (w : World) (h0 : YtlioggjncgfioaaGr.IsRow .u8 w a0 len0 cap0 z0) (y0 : len0 * 1 ≤ 140737488351232) (h1 : YtlioggjncgfioaaGr.IsRow .u8 w a1 len1 cap1 z1) (y1 : len1 * 1 ≤ 140737488351232) :
    Calls Try.prog 4 #[.slice a0 len0 cap0, .slice a1 len1 cap1] w fun e w' => e = .returned (.bool true) ∧ Below w.heap.size w w' := by
  obtain ⟨l0, g0⟩ := Rb.row h0
  obtain ⟨l1, g1⟩ := Rb.row h1
  exact law_main g0 g1
end Go.Proofs.Ytlioggjncgfioaa.Draw
