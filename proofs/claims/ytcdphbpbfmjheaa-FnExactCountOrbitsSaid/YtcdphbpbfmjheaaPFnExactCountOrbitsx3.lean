-- Written by a program of this session (wip/tools/mp.py) around the kit's printer; Lean checks it.
import Derived.Test.YtcdphbpbfmjheaaPFnExactCountOrbitsx0
import Derived.Test.YtcdphbpbfmjheaaPFnExactCountOrbitsx1
import Derived.Test.YtcdphbpbfmjheaaPFnExactCountOrbitsx2
namespace Go.Proofs.Ytcdphbpbfmjheaa.PFnExactCountOrbits
open Go.RowKit Go.Proofs.YtcdphbpbfmjheaaW.PrintWords Go.Proofs.YtcdphbpbfmjheaaW.PrintLast Go.Proofs.YtcdphbpbfmjheaaW.PrintMore
attribute [local go_sem] max2_int min2_int max_two min_two max_three min_three max_four min_four   -- for this text's walks alone
set_option linter.unusedVariables false
set_option linter.unusedSimpArgs false

/-! ### spec_liReach: function 80 -/
mutual
def spec_liReach.l0 : Nat → Bool → List Bool → List Int → Int → List Int → Bool → Option (List Int)
  | 0, _, _, _, _, _, _ => none
  | k + 1, x2, x7, x8, x9, x135000, x135001 => if x9 < (x8.length : Int) then (spec_liReach.l1 k x2 x7 x8 x9 x135000 (x135000.length : Int) 0 x135000 x135001) else (spec_liReach.l2 k ([] : List Int) x7 (x7.length : Int) 0)
def spec_liReach.l1 : Nat → Bool → List Bool → List Int → Int → List Int → Int → Int → List Int → Bool → Option (List Int)
  | 0, _, _, _, _, _, _, _, _, _ => none
  | k + 1, x2, x7, x8, x9, x33, x34, x35, x135000, x135001 => if x35 < x34 then (if 0 ≤ x35 then (if x35 < (x33.length : Int) then (if 0 ≤ x9 then (if x9 < (x8.length : Int) then (if x2 = true then ((spec_liReflect.f k x135000 x135001 (rd x8 x9) x35).bind fun t144 => (if 0 ≤ t144 then (if t144 < (x7.length : Int) then (if rdOf false x7 t144 = true then (spec_liReach.l1 k x2 x7 x8 x9 x33 x34 (wrap64 (x35 + 1)) x135000 x135001) else (if x8.length < 17592186044416 then (spec_liReach.l1 k x2 (x7.set (t144 : Int).toNat true) (x8 ++ [t144]) x9 x33 x34 (wrap64 (x35 + 1)) x135000 x135001) else (none))) else (none)) else (none))) else ((spec_grIn.f (rd x8 x9) x35).bind fun t150 => (if t150 = true then (if 0 ≤ (Go.bits .xor .i64 (rd x8 x9) (rd x33 x35)) then (if (Go.bits .xor .i64 (rd x8 x9) (rd x33 x35)) < (x7.length : Int) then (if (rdOf false x7 (Go.bits .xor .i64 (rd x8 x9) (rd x33 x35)) = true) then (spec_liReach.l1 k x2 x7 x8 x9 x33 x34 (wrap64 (x35 + 1)) x135000 x135001) else (if x8.length < 17592186044416 then (spec_liReach.l1 k x2 (x7.set ((Go.bits .xor .i64 (rd x8 x9) (rd x33 x35)) : Int).toNat true) (x8 ++ [Go.bits .xor .i64 (rd x8 x9) (rd x33 x35)]) x9 x33 x34 (wrap64 (x35 + 1)) x135000 x135001) else (none))) else (none)) else (none)) else (if 0 ≤ (rd x8 x9) then (if (rd x8 x9) < (x7.length : Int) then (if (rdOf false x7 (rd x8 x9) = true) then (spec_liReach.l1 k x2 x7 x8 x9 x33 x34 (wrap64 (x35 + 1)) x135000 x135001) else (if x8.length < 17592186044416 then (spec_liReach.l1 k x2 (x7.set ((rd x8 x9) : Int).toNat true) (x8 ++ [rd x8 x9]) x9 x33 x34 (wrap64 (x35 + 1)) x135000 x135001) else (none))) else (none)) else (none))))) else (none)) else (none)) else (none)) else (none)) else (spec_liReach.l0 k x2 x7 x8 (wrap64 (x9 + 1)) x135000 x135001)
def spec_liReach.l2 : Nat → List Int → List Bool → Int → Int → Option (List Int)
  | 0, _, _, _, _ => none
  | k + 1, x13, x68, x69, x70 => if x70 < x69 then (if 0 ≤ x70 then (if x70 < (x68.length : Int) then (if rdOf false x68 x70 = true then (if x13.length < 17592186044416 then (spec_liReach.l2 k (x13 ++ [x70]) x68 x69 (wrap64 (x70 + 1))) else (none)) else (spec_liReach.l2 k x13 x68 x69 (wrap64 (x70 + 1)))) else (none)) else (none)) else (some x13)
end
def spec_liReach.f (k : Nat) (l0_0 : List Int) (a0_1 : Bool) (a1 : Int) (a2 : Bool) : Option (List Int) := if 0 ≤ (shl .i64 1 (l0_0.length : Int)) then (if (shl .i64 1 (l0_0.length : Int) : Int).toNat ≤ 281474976710656 then ((some (List.replicate (shl .i64 1 (l0_0.length : Int) : Int).toNat false : List Bool)).bind fun y135 => (if 0 ≤ a1 then (if a1 < (y135.length : Int) then (spec_liReach.l0 k a2 (y135.set (a1 : Int).toNat true) (([a1] : List Int)) 0 l0_0 a0_1) else (none)) else (none))) else (none)) else (none)
theorem spec_liReach.mono_l : ∀ k, (∀ y0 y1 y2 y3 y4 y5, LeO (spec_liReach.l0 k y0 y1 y2 y3 y4 y5) (spec_liReach.l0 (k + 1) y0 y1 y2 y3 y4 y5)) ∧ (∀ y0 y1 y2 y3 y4 y5 y6 y7 y8, LeO (spec_liReach.l1 k y0 y1 y2 y3 y4 y5 y6 y7 y8) (spec_liReach.l1 (k + 1) y0 y1 y2 y3 y4 y5 y6 y7 y8)) ∧ (∀ y0 y1 y2 y3, LeO (spec_liReach.l2 k y0 y1 y2 y3) (spec_liReach.l2 (k + 1) y0 y1 y2 y3))
  | 0 => ⟨fun _ _ _ _ _ _ r h => by simp [spec_liReach.l0] at h, fun _ _ _ _ _ _ _ _ _ r h => by simp [spec_liReach.l1] at h, fun _ _ _ _ r h => by simp [spec_liReach.l2] at h⟩
  | k + 1 => by
    obtain ⟨ih0, ih1, ih2⟩ := spec_liReach.mono_l k
    refine ⟨?_, ?_, ?_⟩
    · intro y0 y1 y2 y3 y4 y5
      unfold spec_liReach.l0
      repeat' first
      | (with_reducible exact ih0 _ _ _ _ _ _)
      | (with_reducible exact ih1 _ _ _ _ _ _ _ _ _)
      | (with_reducible exact ih2 _ _ _ _)
      | (with_reducible exact spec_liReflect.mono _ _ _ _ _)
      | (with_reducible exact LeO.refl _)
      | (with_reducible exact LeO.none _)
      | (with_reducible refine LeO.ite ?_ ?_)
      | (with_reducible refine LeO.bind ?_ (fun _ => ?_))
      | exact ih0 _ _ _ _ _ _
      | exact ih1 _ _ _ _ _ _ _ _ _
      | exact ih2 _ _ _ _
      | exact spec_liReflect.mono _ _ _ _ _
      | exact LeO.none _
      | refine LeO.ite ?_ ?_
      | refine LeO.bind ?_ (fun _ => ?_)
    · intro y0 y1 y2 y3 y4 y5 y6 y7 y8
      unfold spec_liReach.l1
      repeat' first
      | (with_reducible exact ih0 _ _ _ _ _ _)
      | (with_reducible exact ih1 _ _ _ _ _ _ _ _ _)
      | (with_reducible exact ih2 _ _ _ _)
      | (with_reducible exact spec_liReflect.mono _ _ _ _ _)
      | (with_reducible exact LeO.refl _)
      | (with_reducible exact LeO.none _)
      | (with_reducible refine LeO.ite ?_ ?_)
      | (with_reducible refine LeO.bind ?_ (fun _ => ?_))
      | exact ih0 _ _ _ _ _ _
      | exact ih1 _ _ _ _ _ _ _ _ _
      | exact ih2 _ _ _ _
      | exact spec_liReflect.mono _ _ _ _ _
      | exact LeO.none _
      | refine LeO.ite ?_ ?_
      | refine LeO.bind ?_ (fun _ => ?_)
    · intro y0 y1 y2 y3
      unfold spec_liReach.l2
      repeat' first
      | (with_reducible exact ih0 _ _ _ _ _ _)
      | (with_reducible exact ih1 _ _ _ _ _ _ _ _ _)
      | (with_reducible exact ih2 _ _ _ _)
      | (with_reducible exact spec_liReflect.mono _ _ _ _ _)
      | (with_reducible exact LeO.refl _)
      | (with_reducible exact LeO.none _)
      | (with_reducible refine LeO.ite ?_ ?_)
      | (with_reducible refine LeO.bind ?_ (fun _ => ?_))
      | exact ih0 _ _ _ _ _ _
      | exact ih1 _ _ _ _ _ _ _ _ _
      | exact ih2 _ _ _ _
      | exact spec_liReflect.mono _ _ _ _ _
      | exact LeO.none _
      | refine LeO.ite ?_ ?_
      | refine LeO.bind ?_ (fun _ => ?_)
theorem spec_liReach.mono : ∀ a0 a1 a2 a3 k, LeO (spec_liReach.f k a0 a1 a2 a3) (spec_liReach.f (k + 1) a0 a1 a2 a3) := by
  intro a0 a1 a2 a3 k
  obtain ⟨ih0, ih1, ih2⟩ := spec_liReach.mono_l k
  unfold spec_liReach.f
  repeat' first
      | (with_reducible exact ih0 _ _ _ _ _ _)
      | (with_reducible exact ih1 _ _ _ _ _ _ _ _ _)
      | (with_reducible exact ih2 _ _ _ _)
      | (with_reducible exact spec_liReflect.mono _ _ _ _ _)
      | (with_reducible exact LeO.refl _)
      | (with_reducible exact LeO.none _)
      | (with_reducible refine LeO.ite ?_ ?_)
      | (with_reducible refine LeO.bind ?_ (fun _ => ?_))
      | exact ih0 _ _ _ _ _ _
      | exact ih1 _ _ _ _ _ _ _ _ _
      | exact ih2 _ _ _ _
      | exact spec_liReflect.mono _ _ _ _ _
      | exact LeO.none _
      | refine LeO.ite ?_ ?_
      | refine LeO.bind ?_ (fun _ => ?_)
set_option maxHeartbeats 8000000 in
set_option maxRecDepth 100000 in
theorem spec_liReach.calls (k : Nat) (A0_0 : Option Addr) (c0_0 : Nat) (l0_0 : List Int) (a0_1 : Bool) (a1 : Int) (a2 : Bool) (r : List Int) (w : World) (hr0_0 : Kd.C (Kd.int .i64) w A0_0 l0_0.length l0_0) (hc0_0 : l0_0.length ≤ c0_0) (h : spec_liReach.f k l0_0 a0_1 a1 a2 = some r) :
    Calls Try.prog 80 #[.agg #[.slice A0_0 l0_0.length c0_0, .bool a0_1], .int .i64 a1, .bool a2] w fun e w' => ∃ v0_ : Value, e = .returned (v0_) ∧ Kd.R (Kd.int .i64) 3 w' w.heap.size (fun _ => True) v0_ r ∧ Below w.heap.size w w' := by
  have hu28 := Try.underlying28
  have HR0_0 := Aside0.mk hr0_0
  have HC0_0 := Aside0.mk hc0_0
  clear hr0_0 hc0_0
  have HB := Aside0.mk (Below.refl w.heap.size w)
  have H : (if 0 ≤ (shl .i64 1 (l0_0.length : Int)) then (if (shl .i64 1 (l0_0.length : Int) : Int).toNat ≤ 281474976710656 then ((some (List.replicate (shl .i64 1 (l0_0.length : Int) : Int).toNat false : List Bool)).bind fun y135 => (if 0 ≤ a1 then (if a1 < (y135.length : Int) then (spec_liReach.l0 k a2 (y135.set (a1 : Int).toNat true) (([a1] : List Int)) 0 l0_0 a0_1) else (none)) else (none))) else (none)) else (none)) = some r := h
  clear h
  obtain ⟨ji4, hji4⟩ : ∃ j_ : Int, (shl .i64 1 (l0_0.length : Int)) = j_ := ⟨_, rfl⟩
  replace H : (if 0 ≤ (ji4) then (if (ji4 : Int).toNat ≤ 281474976710656 then ((some (List.replicate (ji4 : Int).toNat false : List Bool)).bind fun y135 => (if 0 ≤ a1 then (if a1 < (y135.length : Int) then (spec_liReach.l0 k a2 (y135.set (a1 : Int).toNat true) (([a1] : List Int)) 0 l0_0 a0_1) else (none)) else (none))) else (none)) else (none)) = some r := by first | (rw [hji4] at H; exact H) | (simp only [hji4] at H ⊢; exact H)
  have hji4_ : (IntKind.i64.wrap (1 * 2 ^ min (l0_0.length : Int).toNat 64)) = ji4 := hji4
  have hji4z : (l0_0.length : Int) ≤ 64 → (IntKind.i64.wrap (1 * 2 ^ (l0_0.length : Int).toNat)) = ji4 := shl_small hji4
  have hji4p : (IntKind.i64.wrap (1 * 2 ^ min l0_0.length 64)) = ji4 := hji4_
  have hji4q : (l0_0.length : Int) ≤ 64 → (IntKind.i64.wrap (1 * 2 ^ l0_0.length)) = ji4 := hji4z
  have hji4r : (IntKind.i64.wrap (2 ^ min l0_0.length 64)) = ji4 := by have h_ := hji4p; rw [Int.one_mul] at h_; exact h_
  have hji4s : (l0_0.length : Int) ≤ 64 → (IntKind.i64.wrap (2 ^ l0_0.length)) = ji4 := fun hle_ => by have h_ := hji4q hle_; rw [Int.one_mul] at h_; exact h_
  have hji4u : (IntKind.i64.wrap (2 ^ min (l0_0.length : Int).toNat 64)) = ji4 := by have h_ := hji4_; rw [Int.one_mul] at h_; exact h_
  have hji4v : (l0_0.length : Int) ≤ 64 → (IntKind.i64.wrap (2 ^ (l0_0.length : Int).toNat)) = ji4 := fun hle_ => by have h_ := hji4z hle_; rw [Int.one_mul] at h_; exact h_
  have hji4y : (wrap64 (1 * 2 ^ min (l0_0.length : Int).toNat 64)) = ji4 := (i64_w _).symm.trans hji4_
  have hji4x : (l0_0.length : Int) ≤ 64 → (wrap64 (1 * 2 ^ (l0_0.length : Int).toNat)) = ji4 := fun h_ => (i64_w _).symm.trans (hji4z h_)
  by_cases c5 : 0 ≤ (ji4)
  · rw [if_pos c5] at H
    have c5b0 := eq_true c5
    have c5b1 : decide (0 ≤ (ji4)) = true := decide_eq_true c5
    clear c5
    by_cases c6 : (ji4 : Int).toNat ≤ 281474976710656
    · rw [if_pos c6] at H
      have c6b0 := eq_true c6
      have c6b1 : decide ((ji4 : Int).toNat ≤ 281474976710656) = true := decide_eq_true c6
      clear c6
      obtain ⟨y135, hy135⟩ : ∃ y_ : List Bool, y_ = (List.replicate (ji4 : Int).toNat false) := ⟨_, rfl⟩
      replace H : (if 0 ≤ a1 then (if a1 < (y135.length : Int) then (spec_liReach.l0 k a2 (y135.set (a1 : Int).toNat true) (([a1] : List Int)) 0 l0_0 a0_1) else (none)) else (none)) = some r := by first | (rw [hy135]; with_reducible exact H) | (have H2_ := (Option.bind_some _ _).symm.trans H; rw [hy135]; with_reducible exact H2_) | (have H2_ := (Option.bind_some _ _).symm.trans H; with_reducible exact H2_) | with_reducible exact H | (rw [hy135]; exact H) | exact H
      have Ny135 := Aside0.mk hy135
      clear hy135
      by_cases c7 : 0 ≤ a1
      · rw [if_pos c7] at H
        have c7b0 : decide (0 ≤ a1) = true := decide_eq_true c7
        clear c7
        by_cases c8 : a1 < (y135.length : Int)
        · rw [if_pos c8] at H
          have c8b0 : decide (a1 < (y135.length : Int)) = true := decide_eq_true c8
          clear c8
          obtain ⟨y138, hy138⟩ : ∃ y_ : List Bool, y_ = (y135.set (a1 : Int).toNat true) := ⟨_, rfl⟩
          replace H : (spec_liReach.l0 k a2 y138 (([a1] : List Int)) 0 l0_0 a0_1) = some r := by first | (rw [hy138]; with_reducible exact H) | (have H2_ := (Option.bind_some _ _).symm.trans H; rw [hy138]; with_reducible exact H2_) | (have H2_ := (Option.bind_some _ _).symm.trans H; with_reducible exact H2_) | with_reducible exact H | (rw [hy138]; exact H) | exact H
          have Ny138 := Aside0.mk hy138
          clear hy138
          obtain ⟨y139, hy139⟩ : ∃ y_ : List Int, y_ = (([a1] : List Int)) := ⟨_, rfl⟩
          replace H : (spec_liReach.l0 k a2 y138 y139 0 l0_0 a0_1) = some r := by first | (rw [hy139]; with_reducible exact H) | (have H2_ := (Option.bind_some _ _).symm.trans H; rw [hy139]; with_reducible exact H2_) | (have H2_ := (Option.bind_some _ _).symm.trans H; with_reducible exact H2_) | with_reducible exact H | (rw [hy139]; exact H) | exact H
          have Ny139 := Aside0.mk hy139
          clear hy139
          have H' := Aside0.mk H
          clear H
          go_enter Try.func80, Try.ntmps80
          go_wp2_with (first | ((with_reducible refine gate_dst (N := 3) rfl ?_); refine box_event ?hg (N := 3) ?hd (cs := #[.slice A0_0 l0_0.length c0_0, .bool a0_1]) (t := 28) ?hr ?_; (case hd => rfl); (case hg => rfl); (case hr => first | (go_simp; done) | (go_simp; rfl)); intro gb134 hg w10 hbox hb; have n0_ := Aside0.mk (below_step (by repeat (first | (with_reducible first | exact HB.out | apply below_alloc | apply pw_below_drewN | apply below_drew1) | exact HB.out)) hb); have n1_ := Aside0.mk (hbox); have n2_ := Aside0.mk ((by rw [hg]; exact (below_size (by repeat (first | (with_reducible first | exact HB.out | apply below_alloc | apply pw_below_drewN | apply below_drew1) | exact HB.out))) : w.heap.size ≤ gb134)); have n3_ := Aside0.mk ((by rw [hg]; exact (below_size (by repeat (first | (with_reducible first | exact HB.out | apply below_alloc | apply pw_below_drewN | apply below_drew1) | exact HB.out))) : w.heap.size ≤ gb134)); clear HB; have HB := n0_; have BK134 := n1_; have GW134 := n2_; have GE134 := n3_; clear n0_ n1_ n2_ n3_; clear hb hbox hg; have hcz11_0 : w10.cell? ⟨gb134, 0, none⟩ = some (.slice A0_0 l0_0.length c0_0) := (blk_cell BK134.out 0).trans rfl; have hcz11_1 : w10.cell? ⟨gb134, 1, none⟩ = some (.bool a0_1) := (blk_cell BK134.out 1).trans rfl; have hfz11_0 := blk_frozen BK134.out 0; have hfz11_1 := blk_frozen BK134.out 1) | ((with_reducible refine gate_dst (N := 20) rfl ?_); refine Kd.R_make Kd.bool _ 4 rfl (N := 20) rfl 70 _ _ rfl ji4 rfl rfl Try.underlying70 (.bool false) 1 info4 rfl (by decide) (by omega) false (ok := fun _ => True) (okp := fun _ => True) rfl (fun _ hk => hk) trivial (of_decide_eq_true (by first | (with_reducible assumption) | assumption)) (Nat.le_trans (Nat.mul_le_mul_right _ (of_decide_eq_true (by first | (with_reducible assumption) | assumption) : ji4.toNat ≤ 281474976710656)) (by omega)) (Below.refl _ _) (Nat.le_refl _) ?_; intro v136 w12 ho13 hb hg_ hnew_; clear hg_ hnew_; (first | rw [← Ny135.out] at ho13 | (simp only [Int.reduceToNat] at ho13; rw [← Ny135.out] at ho13)); have n0_ := Aside0.mk (Kd.R_lower ho13 (below_size (by repeat (first | (with_reducible first | exact HB.out | apply below_alloc | apply pw_below_drewN | apply below_drew1 | refine below_set ?_ GE134.out) | exact HB.out)))); have n1_ := Aside0.mk (blk_below (g := gb134) (o := .cells #[.slice A0_0 l0_0.length c0_0, .bool a0_1] 28 (0, 0)) (by (with_reducible repeat (first | refine blk_drewN ?_ _ | refine blk_drew ?_ | refine blk_alloc ?_ _)); exact BK134.out) hb); have n2_ := Aside0.mk (below_step (by repeat (first | (with_reducible first | exact HB.out | apply below_alloc | apply pw_below_drewN | apply below_drew1 | refine below_set ?_ GE134.out) | exact HB.out)) hb); clear BK134; clear HB; have HO137 := n0_; have BK134 := n1_; have HB := n2_; clear n0_ n1_ n2_; clear hb ho13; have p9 : 0 ≤ (a1 : Int) := of_decide_eq_true (by first | (with_reducible assumption) | assumption); have q9 : (a1 : Int) < ((y135.length : Int) : Int) := of_decide_eq_true (by first | (with_reducible assumption) | assumption); obtain ⟨go9, co9, eo9, gb9, gl9, cl9, HG9⟩ := Kd.R_form HO137.out (by omega); (first | cases eo9 | (injection eo9 with ea_ en_ ec_; (first | subst ea_ | (injection ea_ with ea_; subst ea_)); subst ec_; clear en_)); have GB9 := Aside0.mk gb9; have GG9 := Aside0.mk HG9; clear gb9 gl9 HG9; obtain ⟨hx9_0, hf9_0⟩ := Kd.R_celln false HO137.out (a1 : Int) p9 q9; replace p9 := eq_true p9; replace q9 := eq_true q9; obtain ⟨hy14_, hz14_⟩ := Kd.R_celln false HO137.out (a1 : Int) (of_decide_eq_true (by first | (with_reducible assumption) | assumption)) (of_decide_eq_true (by first | (with_reducible assumption) | assumption)); have HP14 := Kd.R_putg HO137.out (a1 : Int) true) | ((with_reducible refine gate_store (t := 4) (p := 23) rfl ?_); refine store_event (t := 4) (p := 23) (v := ?vo_w15) (w1 := (w12.setCell ⟨go9, (a1 : Int).toNat, none⟩ (.bool true))) ?hg ?ho ?hn ?hr ?_; (case ho => rfl); (case hg => rfl); (case hn => rfl); (case hr => first | (go_simp; done) | (go_simp; rfl)); intro w15 hw; have hg : w12.grownBy w15 (some go9) := (by rw [hw]; exact HP14.2); have hp_ : Kd.R Kd.bool 4 w15 w.heap.size (fun _ => True) (.slice (some ⟨go9, 0, none⟩) y135.length co9) y138 := (by rw [hw, Ny138.out]; exact HP14.1); clear HP14; have n0_ := Aside0.mk (blk_grown (g := gb134) (o := .cells #[.slice A0_0 l0_0.length c0_0, .bool a0_1] 28 (0, 0)) (by (with_reducible repeat (first | refine blk_drewN ?_ _ | refine blk_drew ?_ | refine blk_alloc ?_ _)); exact BK134.out) hg (Kd.R_ne HO137.out BK134.out (by decide))); have n1_ := Aside0.mk (hp_); have n2_ := Aside0.mk ((by rw [hw]; exact below_set (HB.out) GB9.out : Below w.heap.size w w15)); clear BK134; clear HO137; clear HB; have BK134 := n0_; have HO137 := n1_; have HB := n2_; clear n0_ n1_ n2_; clear hg hw hp_) | ((with_reducible refine gate_dst (N := 25) rfl ?_); refine Kd.R_lit (Kd.int .i64) _ 3 ?hg (N := 25) ?hd (xs := ([a1] : List Int)) (inner := [.int .i64 a1]) (ok := fun _ => True) (okp := fun _ => True) ?hr ?hp (fun _ hk => hk) trivial (Below.refl _ _) (Nat.le_refl _) (by simp) ?_; (case hd => rfl); (case hg => rfl); (case hr => first | (go_simp; done) | (go_simp; rfl)); (case hp => exact (Reps.one (show Kd.M (Kd.int .i64) _ _ _ a1 [.int .i64 a1] from rfl) (Reps.none _ _))); intro v140 w16 ho17 hb hg_ hnew_; clear hg_ hnew_; (first | rw [← Ny139.out] at ho17 | (simp only [Int.reduceToNat] at ho17; rw [← Ny139.out] at ho17)); have n0_ := Aside0.mk (Kd.R_below (by (with_reducible repeat (first | apply Kd.R_alloc | apply Kd.R_drewN | apply Kd.R_drew)); exact HO137.out) hb); have n1_ := Aside0.mk (Kd.R_lower ho17 (below_size (by repeat (first | (with_reducible first | exact HB.out | apply below_alloc | apply pw_below_drewN | apply below_drew1 | refine below_set ?_ GE134.out) | exact HB.out)))); have n2_ := Aside0.mk (blk_below (g := gb134) (o := .cells #[.slice A0_0 l0_0.length c0_0, .bool a0_1] 28 (0, 0)) (by (with_reducible repeat (first | refine blk_drewN ?_ _ | refine blk_drew ?_ | refine blk_alloc ?_ _)); exact BK134.out) hb); have n3_ := Aside0.mk (below_step (by repeat (first | (with_reducible first | exact HB.out | apply below_alloc | apply pw_below_drewN | apply below_drew1 | refine below_set ?_ GE134.out) | exact HB.out)) hb); clear HO137; clear BK134; clear HB; have HO137 := n0_; have HO141 := n1_; have BK134 := n2_; have HB := n3_; clear n0_ n1_ n2_ n3_; clear hb ho17))
          go_loopg [8, 9] k (fun kq v8 v9 w' => ∃ (x7_1 : List Bool) (x8_1 : List Int) (x9_1 : Int), v9 = .int .i64 x9_1 ∧ Aside0 (spec_liReach.l0 kq a2 x7_1 x8_1 x9_1 l0_0 a0_1 = some r) ∧ Aside0 (kq ≤ k) ∧ Aside0 (Kd.R Kd.bool 4 w' w.heap.size (fun _ => True) (.slice (some ⟨go9, 0, none⟩) y135.length co9) x7_1) ∧ Aside0 (Kd.R (Kd.int .i64) 3 w' w.heap.size (fun _ => True) v8 x8_1) ∧ Aside0 (w'.heap[gb134]? = some (.cells #[(.slice A0_0 l0_0.length c0_0), .bool a0_1] 28 (0, 0))) ∧ Aside0 (Below w.heap.size w w'))
          case atStart => exact ⟨(y138), (y139), (0), (by first | rfl | (simp; done) | (simp [*]; done)), H', ⟨Nat.le_refl _⟩, ⟨by (with_reducible repeat (first | apply Kd.R_alloc | apply Kd.R_drewN | apply Kd.R_drew)); exact HO137.out⟩, ⟨by (with_reducible repeat (first | apply Kd.R_alloc | apply Kd.R_drewN | apply Kd.R_drew)); exact HO141.out⟩, ⟨by (with_reducible repeat (first | refine blk_drewN ?_ _ | refine blk_drew ?_ | refine blk_alloc ?_ _)); exact BK134.out⟩, ⟨by repeat (first | (with_reducible first | exact HB.out | apply below_alloc | apply pw_below_drewN | apply below_drew1 | refine below_set ?_ GE134.out) | exact HB.out)⟩⟩
          case round =>
            clear H'
            try clear p2
            try clear c5
            try clear c5b0
            try clear c5b1
            try clear c6
            try clear c6b0
            try clear c6b1
            try clear p6
            try clear c7
            try clear c7b0
            try clear c8
            try clear c8b0
            try clear p9
            try clear q9
            try clear hx9
            try clear hf9
            try clear hcz11_0
            try clear hcz11_1
            try clear hfz11_0
            try clear hfz11_1
            try clear hx9_0
            try clear p9
            try clear q9
            obtain ⟨x7_1, x8_1, x9_1, rfl, HA, HK1, HO_7, HO_8, BK134, HB⟩ := hrel
            have hl7_1 := (Kd.R_reads' HO_7.out).1
            rw [hl7_1] at HO_7
            (try simp only [hl7_1])
            (try simp only [hl7_1] at BK134)
            (try simp only [hl7_1] at HO_8)
            cases gk with
            | zero => exact absurd HA.out (by simp [spec_liReach.l0])
            | succ k1 =>
              have H := HA.out
              clear HA
              simp only [spec_liReach.l0] at H
              by_cases c18 : x9_1 < (x8_1.length : Int)
              · rw [if_pos c18] at H
                have c18b0 : decide (x9_1 < (x8_1.length : Int)) = true := decide_eq_true c18
                (try (have c18b0h := c18b0; simp only [hl7_1] at c18b0h))
                clear c18
                have H' := Aside0.mk H
                clear H
                obtain ⟨Ao19, co19, eo19⟩ := Kd.R_slice HO_8.out
                subst eo19
                have hcz20_0 : wr.cell? ⟨gb134, 0, none⟩ = some (.slice A0_0 l0_0.length c0_0) := (blk_cell BK134.out 0).trans rfl
                have hcz20_1 : wr.cell? ⟨gb134, 1, none⟩ = some (.bool a0_1) := (blk_cell BK134.out 1).trans rfl
                have hfz20_0 := blk_frozen BK134.out 0
                have hfz20_1 := blk_frozen BK134.out 1
                go_wp2
                go_loopg [8, 35] k1 (fun kq v8 v35 w' => ∃ (x7_2 : List Bool) (x8_2 : List Int) (x35_2 : Int), v35 = .int .i64 x35_2 ∧ Aside0 (spec_liReach.l1 kq a2 x7_2 x8_2 x9_1 l0_0 (l0_0.length : Int) x35_2 l0_0 a0_1 = some r) ∧ Aside0 (kq ≤ k1) ∧ Aside0 (Kd.R Kd.bool 4 w' w.heap.size (fun _ => True) (.slice (some ⟨go9, 0, none⟩) x7_1.length co9) x7_2) ∧ Aside0 (Kd.R (Kd.int .i64) 3 w' w.heap.size (fun _ => True) v8 x8_2) ∧ Aside0 (w'.heap[gb134]? = some (.cells #[(.slice A0_0 l0_0.length c0_0), .bool a0_1] 28 (0, 0))) ∧ Aside0 (Below w.heap.size w w'))
                case atStart => exact ⟨(x7_1), (x8_1), (0), (by first | rfl | (simp; done) | (simp [*]; done)), H', ⟨Nat.le_refl _⟩, ⟨by (try simp only [hl7_1]); (with_reducible repeat (first | apply Kd.R_alloc | apply Kd.R_drewN | apply Kd.R_drew)); exact HO_7.out⟩, ⟨by (try simp only [hl7_1]); (with_reducible repeat (first | apply Kd.R_alloc | apply Kd.R_drewN | apply Kd.R_drew)); exact HO_8.out⟩, ⟨by (try simp only [hl7_1]); (with_reducible repeat (first | refine blk_drewN ?_ _ | refine blk_drew ?_ | refine blk_alloc ?_ _)); exact BK134.out⟩, ⟨by repeat (first | (with_reducible first | exact HB.out | apply below_alloc | apply pw_below_drewN | apply below_drew1 | refine below_set ?_ GE134.out) | exact HB.out)⟩⟩
                case round =>
                  clear H'
                  try clear c1
                  try clear p2
                  try clear c5
                  try clear c5b0
                  try clear c5b1
                  try clear c6
                  try clear c6b0
                  try clear c6b1
                  try clear p6
                  try clear c7
                  try clear c7b0
                  try clear c8
                  try clear c8b0
                  try clear p9
                  try clear q9
                  try clear hx9
                  try clear hf9
                  try clear c18
                  try clear c18b0
                  try clear hcz11_0
                  try clear hcz11_1
                  try clear hcz20_0
                  try clear hcz20_1
                  try clear hfz11_0
                  try clear hfz11_1
                  try clear hfz20_0
                  try clear hfz20_1
                  try clear hx9_0
                  try clear p2
                  try clear p6
                  try clear p9
                  try clear q9
                  obtain ⟨x7_2, x8_2, x35_2, rfl, HA, HK2, HO_7, HO_8, BK134, HB⟩ := hrel
                  have hl7_2 := (Kd.R_reads' HO_7.out).1
                  rw [hl7_2] at HO_7
                  (try simp only [hl7_2])
                  (try simp only [hl7_2] at BK134)
                  (try simp only [hl7_2] at HO_8)
                  cases gk with
                  | zero => exact absurd HA.out (by simp [spec_liReach.l1])
                  | succ k2 =>
                    have H := HA.out
                    clear HA
                    simp only [spec_liReach.l1] at H
                    by_cases c21 : x35_2 < (l0_0.length : Int)
                    · rw [if_pos c21] at H
                      have c21b0 : decide (x35_2 < (l0_0.length : Int)) = true := decide_eq_true c21
                      (try (have c21b0h := c21b0; simp only [hl7_1, hl7_2] at c21b0h))
                      clear c21
                      by_cases c22 : 0 ≤ x35_2
                      · rw [if_pos c22] at H
                        have c22b0 : decide (0 ≤ x35_2) = true := decide_eq_true c22
                        clear c22
                        by_cases c23 : x35_2 < (l0_0.length : Int)
                        · rw [if_pos c23] at H
                          have c23b0 : decide (x35_2 < (l0_0.length : Int)) = true := decide_eq_true c23
                          (try (have c23b0h := c23b0; simp only [hl7_1, hl7_2] at c23b0h))
                          clear c23
                          by_cases c24 : 0 ≤ x9_1
                          · rw [if_pos c24] at H
                            have c24b0 : decide (0 ≤ x9_1) = true := decide_eq_true c24
                            clear c24
                            by_cases c25 : x9_1 < (x8_2.length : Int)
                            · rw [if_pos c25] at H
                              have c25b0 : decide (x9_1 < (x8_2.length : Int)) = true := decide_eq_true c25
                              (try (have c25b0h := c25b0; simp only [hl7_1, hl7_2] at c25b0h))
                              clear c25
                              by_cases c26 : a2 = true
                              · subst c26
                                have H1 : ((spec_liReflect.f k2 l0_0 a0_1 (rd x8_2 x9_1) x35_2).bind fun t144 => (if 0 ≤ t144 then (if t144 < (x7_2.length : Int) then (if rdOf false x7_2 t144 = true then (spec_liReach.l1 k2 true x7_2 x8_2 x9_1 l0_0 (l0_0.length : Int) (wrap64 (x35_2 + 1)) l0_0 a0_1) else (if x8_2.length < 17592186044416 then (spec_liReach.l1 k2 true (x7_2.set (t144 : Int).toNat true) (x8_2 ++ [t144]) x9_1 l0_0 (l0_0.length : Int) (wrap64 (x35_2 + 1)) l0_0 a0_1) else (none))) else (none)) else (none))) = some r := by rw [if_pos rfl] at H; exact H
                                clear H
                                have H := H1
                                clear H1
                                replace H := Option.bind_eq_some_iff.mp H
                                obtain ⟨t144, A270, H⟩ := H
                                replace H : (if 0 ≤ t144 then (if t144 < (x7_2.length : Int) then (if rdOf false x7_2 t144 = true then (spec_liReach.l1 k2 true x7_2 x8_2 x9_1 l0_0 (l0_0.length : Int) (wrap64 (x35_2 + 1)) l0_0 a0_1) else (if x8_2.length < 17592186044416 then (spec_liReach.l1 k2 true (x7_2.set (t144 : Int).toNat true) (x8_2 ++ [t144]) x9_1 l0_0 (l0_0.length : Int) (wrap64 (x35_2 + 1)) l0_0 a0_1) else (none))) else (none)) else (none)) = some r := H
                                have A27 := Aside0.mk A270
                                clear A270
                                by_cases c28 : 0 ≤ t144
                                · rw [if_pos c28] at H
                                  have c28b0 : decide (0 ≤ t144) = true := decide_eq_true c28
                                  clear c28
                                  by_cases c29 : t144 < (x7_2.length : Int)
                                  · rw [if_pos c29] at H
                                    have c29b0 : decide (t144 < (x7_2.length : Int)) = true := decide_eq_true c29
                                    (try (have c29b0h := c29b0; simp only [hl7_1, hl7_2] at c29b0h))
                                    clear c29
                                    obtain ⟨bq30, hbq30⟩ : ∃ b_ : Bool, b_ = (rdOf false x7_2 t144) := ⟨_, rfl⟩
                                    replace H : (if bq30 = true then (spec_liReach.l1 k2 true x7_2 x8_2 x9_1 l0_0 (l0_0.length : Int) (wrap64 (x35_2 + 1)) l0_0 a0_1) else (if x8_2.length < 17592186044416 then (spec_liReach.l1 k2 true (x7_2.set (t144 : Int).toNat true) (x8_2 ++ [t144]) x9_1 l0_0 (l0_0.length : Int) (wrap64 (x35_2 + 1)) l0_0 a0_1) else (none))) = some r := by rw [← hbq30] at H; exact H
                                    have Nbq30 := Aside0.mk hbq30
                                    clear hbq30
                                    by_cases c31 : bq30 = true
                                    · subst c31
                                      have H1 : (spec_liReach.l1 k2 true x7_2 x8_2 x9_1 l0_0 (l0_0.length : Int) (wrap64 (x35_2 + 1)) l0_0 a0_1) = some r := by rw [if_pos rfl] at H; exact H
                                      clear H
                                      have H := H1
                                      clear H1
                                      have H' := Aside0.mk H
                                      clear H
                                      have p142 : 0 ≤ (x35_2 : Int) := of_decide_eq_true (by first | (with_reducible assumption) | assumption)
                                      have q142 : x35_2 < (l0_0.length : Int) := of_decide_eq_true (by first | (with_reducible assumption) | assumption)
                                      obtain ⟨ad142, e142, hx142_0⟩ := Kd.at_int HR0_0.out x35_2 p142 q142
                                      cases e142
                                      replace hx142_0 := (HB.out.cell (World.block_lt_of_cell? w _ hx142_0)).trans hx142_0
                                      replace p142 := eq_true p142
                                      replace q142 := eq_true q142
                                      obtain ⟨Ao32, co32, eo32⟩ := Kd.R_slice HO_8.out
                                      subst eo32
                                      have p143 : 0 ≤ (x9_1 : Int) := of_decide_eq_true (by first | (with_reducible assumption) | assumption)
                                      have q143 : x9_1 < (x8_2.length : Int) := of_decide_eq_true (by first | (with_reducible assumption) | assumption)
                                      obtain ⟨ad143, e143, hx143_0⟩ := Kd.at_int (Kd.R_reads' HO_8.out).2.2 x9_1 p143 q143
                                      cases e143
                                      replace p143 := eq_true p143
                                      replace q143 := eq_true q143
                                      have hcz33_0 : wr.cell? ⟨gb134, 0, none⟩ = some (.slice (some ad142) l0_0.length c0_0) := (blk_cell BK134.out 0).trans rfl
                                      have hcz33_1 : wr.cell? ⟨gb134, 1, none⟩ = some (.bool a0_1) := (blk_cell BK134.out 1).trans rfl
                                      have hfz33_0 := blk_frozen BK134.out 0
                                      have hfz33_1 := blk_frozen BK134.out 1
                                      go_wp2_with (first | ((with_reducible refine gate_callee (f := 50) rfl ?_); refine goesL_ (some 48) rfl rfl Try.func50 (by kernel_rfl) rfl #[.agg #[.slice (some ad142) l0_0.length c0_0, .bool a0_1], .int .i64 (rd x8_2 x9_1), .int .i64 x35_2] rfl (by (try simp only [List.map_toArray, List.map_cons, List.map_nil]); first | done | rfl | (simp only [List.length_drop, List.length_take]; rfl)) ?_; (with_reducible refine (spec_liReflect.calls k2 _ _ l0_0 a0_1 (rd x8_2 x9_1) x35_2 t144 _ ?side1 ?side2 A27.out).mono ?_); (case side1 => repeat (first | exact (Kd.C_below HR0_0.out HB.out) | (with_reducible refine Kd.C_alloc ?_ _) | (with_reducible refine Kd.C_drewN ?_ _) | (with_reducible refine Kd.C_drew ?_))); (case side2 => exact HC0_0.out); rintro e w34 ⟨rfl, hb⟩; refine ⟨_, rfl, ?_⟩; have n0_ := Aside0.mk (Kd.R_below (by (with_reducible repeat (first | apply Kd.R_alloc | apply Kd.R_drewN | apply Kd.R_drew)); exact HO_7.out) hb); have n1_ := Aside0.mk (Kd.R_below (by (with_reducible repeat (first | apply Kd.R_alloc | apply Kd.R_drewN | apply Kd.R_drew)); exact HO_8.out) hb); have n2_ := Aside0.mk (blk_below (g := gb134) (o := .cells #[.slice (some ad142) l0_0.length c0_0, .bool a0_1] 28 (0, 0)) (by (with_reducible repeat (first | refine blk_drewN ?_ _ | refine blk_drew ?_ | refine blk_alloc ?_ _)); exact BK134.out) hb); have n3_ := Aside0.mk (below_step (by repeat (first | (with_reducible first | exact HB.out | apply below_alloc | apply pw_below_drewN | apply below_drew1 | refine below_set ?_ GE134.out) | exact HB.out)) hb); clear HO_7; clear HO_8; clear BK134; clear HB; have HO_7 := n0_; have HO_8 := n1_; have BK134 := n2_; have HB := n3_; clear n0_ n1_ n2_ n3_; (try clear hb); (try clear hb2); (try clear hk); (try clear hi); have p145 : 0 ≤ (t144 : Int) := of_decide_eq_true (by first | (with_reducible assumption) | assumption); have q145 : t144 < (x7_2.length : Int) := of_decide_eq_true (by first | (with_reducible assumption) | assumption); obtain ⟨ad145, e145, hx145_0⟩ := Kd.at_bool (Kd.R_reads' HO_7.out).2.2 t144 p145 q145; (try rw [← Nbq30.out] at hx145_0); obtain rfl : (⟨go9, 0, none⟩ : Addr) = ad145 := (by injection e145); (first | simp only [add_plain] at hx145_0 | simp only [add_at] at hx145_0 | simp only [Addr.add, Nat.zero_add] at hx145_0 | skip); replace p145 := eq_true p145; replace q145 := eq_true q145))
                                      (try simp only [← hl7_2])
                                      go_roundg k2
                                      case measure => have := HK1.out; have := HK2.out; omega
                                      case rel => exact ⟨(x7_2), (x8_2), (wrap64 (x35_2 + 1)), (by first | rfl | (simp; done) | (simp [*]; done)), H', ⟨by have := HK1.out; have := HK2.out; omega⟩, ⟨by (try simp only [hl7_1]); (try simp only [hl7_2]); (with_reducible repeat (first | apply Kd.R_alloc | apply Kd.R_drewN | apply Kd.R_drew)); exact HO_7.out⟩, ⟨by (try simp only [hl7_1]); (try simp only [hl7_2]); (with_reducible repeat (first | apply Kd.R_alloc | apply Kd.R_drewN | apply Kd.R_drew)); exact HO_8.out⟩, ⟨by (try simp only [hl7_1]); (try simp only [hl7_2]); (with_reducible repeat (first | refine blk_drewN ?_ _ | refine blk_drew ?_ | refine blk_alloc ?_ _)); exact BK134.out⟩, ⟨by repeat (first | (with_reducible first | exact HB.out | apply below_alloc | apply pw_below_drewN | apply below_drew1 | refine below_set ?_ GE134.out) | exact HB.out)⟩⟩
                                    · replace c31 := Bool.eq_false_iff.mpr c31
                                      subst c31
                                      have H1 : (if x8_2.length < 17592186044416 then (spec_liReach.l1 k2 true (x7_2.set (t144 : Int).toNat true) (x8_2 ++ [t144]) x9_1 l0_0 (l0_0.length : Int) (wrap64 (x35_2 + 1)) l0_0 a0_1) else (none)) = some r := by rw [if_neg (show ¬ (false = true) by decide)] at H; exact H
                                      clear H
                                      have H := H1
                                      clear H1
                                      obtain ⟨y146, hy146⟩ : ∃ y_ : List Bool, y_ = (x7_2.set (t144 : Int).toNat true) := ⟨_, rfl⟩
                                      replace H : (if x8_2.length < 17592186044416 then (spec_liReach.l1 k2 true y146 (x8_2 ++ [t144]) x9_1 l0_0 (l0_0.length : Int) (wrap64 (x35_2 + 1)) l0_0 a0_1) else (none)) = some r := by first | (rw [hy146]; with_reducible exact H) | (have H2_ := (Option.bind_some _ _).symm.trans H; rw [hy146]; with_reducible exact H2_) | (have H2_ := (Option.bind_some _ _).symm.trans H; with_reducible exact H2_) | with_reducible exact H | (rw [hy146]; exact H) | exact H
                                      have Ny146 := Aside0.mk hy146
                                      clear hy146
                                      by_cases c36 : x8_2.length < 17592186044416
                                      · rw [if_pos c36] at H
                                        have LMc36 := Aside0.mk c36
                                        clear c36
                                        obtain ⟨y147, hy147⟩ : ∃ y_ : List Int, y_ = (x8_2 ++ [t144]) := ⟨_, rfl⟩
                                        replace H : (spec_liReach.l1 k2 true y146 y147 x9_1 l0_0 (l0_0.length : Int) (wrap64 (x35_2 + 1)) l0_0 a0_1) = some r := by first | (rw [hy147]; with_reducible exact H) | (have H2_ := (Option.bind_some _ _).symm.trans H; rw [hy147]; with_reducible exact H2_) | (have H2_ := (Option.bind_some _ _).symm.trans H; with_reducible exact H2_) | with_reducible exact H | (rw [hy147]; exact H) | exact H
                                        have Ny147 := Aside0.mk hy147
                                        clear hy147
                                        have H' := Aside0.mk H
                                        clear H
                                        have p142 : 0 ≤ (x35_2 : Int) := of_decide_eq_true (by first | (with_reducible assumption) | assumption)
                                        have q142 : x35_2 < (l0_0.length : Int) := of_decide_eq_true (by first | (with_reducible assumption) | assumption)
                                        obtain ⟨ad142, e142, hx142_0⟩ := Kd.at_int HR0_0.out x35_2 p142 q142
                                        cases e142
                                        replace hx142_0 := (HB.out.cell (World.block_lt_of_cell? w _ hx142_0)).trans hx142_0
                                        replace p142 := eq_true p142
                                        replace q142 := eq_true q142
                                        obtain ⟨Ao37, co37, eo37⟩ := Kd.R_slice HO_8.out
                                        subst eo37
                                        have p143 : 0 ≤ (x9_1 : Int) := of_decide_eq_true (by first | (with_reducible assumption) | assumption)
                                        have q143 : x9_1 < (x8_2.length : Int) := of_decide_eq_true (by first | (with_reducible assumption) | assumption)
                                        obtain ⟨ad143, e143, hx143_0⟩ := Kd.at_int (Kd.R_reads' HO_8.out).2.2 x9_1 p143 q143
                                        cases e143
                                        replace p143 := eq_true p143
                                        replace q143 := eq_true q143
                                        have hcz38_0 : wr.cell? ⟨gb134, 0, none⟩ = some (.slice (some ad142) l0_0.length c0_0) := (blk_cell BK134.out 0).trans rfl
                                        have hcz38_1 : wr.cell? ⟨gb134, 1, none⟩ = some (.bool a0_1) := (blk_cell BK134.out 1).trans rfl
                                        have hfz38_0 := blk_frozen BK134.out 0
                                        have hfz38_1 := blk_frozen BK134.out 1
                                        go_wp2_with (first | ((with_reducible refine gate_callee (f := 50) rfl ?_); refine goesL_ (some 48) rfl rfl Try.func50 (by kernel_rfl) rfl #[.agg #[.slice (some ad142) l0_0.length c0_0, .bool a0_1], .int .i64 (rd x8_2 x9_1), .int .i64 x35_2] rfl (by (try simp only [List.map_toArray, List.map_cons, List.map_nil]); first | done | rfl | (simp only [List.length_drop, List.length_take]; rfl)) ?_; (with_reducible refine (spec_liReflect.calls k2 _ _ l0_0 a0_1 (rd x8_2 x9_1) x35_2 t144 _ ?side1 ?side2 A27.out).mono ?_); (case side1 => repeat (first | exact (Kd.C_below HR0_0.out HB.out) | (with_reducible refine Kd.C_alloc ?_ _) | (with_reducible refine Kd.C_drewN ?_ _) | (with_reducible refine Kd.C_drew ?_))); (case side2 => exact HC0_0.out); rintro e w39 ⟨rfl, hb⟩; refine ⟨_, rfl, ?_⟩; have n0_ := Aside0.mk (Kd.R_below (by (with_reducible repeat (first | apply Kd.R_alloc | apply Kd.R_drewN | apply Kd.R_drew)); exact HO_7.out) hb); have n1_ := Aside0.mk (Kd.R_below (by (with_reducible repeat (first | apply Kd.R_alloc | apply Kd.R_drewN | apply Kd.R_drew)); exact HO_8.out) hb); have n2_ := Aside0.mk (blk_below (g := gb134) (o := .cells #[.slice (some ad142) l0_0.length c0_0, .bool a0_1] 28 (0, 0)) (by (with_reducible repeat (first | refine blk_drewN ?_ _ | refine blk_drew ?_ | refine blk_alloc ?_ _)); exact BK134.out) hb); have n3_ := Aside0.mk (below_step (by repeat (first | (with_reducible first | exact HB.out | apply below_alloc | apply pw_below_drewN | apply below_drew1 | refine below_set ?_ GE134.out) | exact HB.out)) hb); clear HO_7; clear HO_8; clear BK134; clear HB; have HO_7 := n0_; have HO_8 := n1_; have BK134 := n2_; have HB := n3_; clear n0_ n1_ n2_ n3_; (try clear hb); (try clear hb2); (try clear hk); (try clear hi); have p145 : 0 ≤ (t144 : Int) := of_decide_eq_true (by first | (with_reducible assumption) | assumption); have q145 : t144 < (x7_2.length : Int) := of_decide_eq_true (by first | (with_reducible assumption) | assumption); obtain ⟨ad145, e145, hx145_0⟩ := Kd.at_bool (Kd.R_reads' HO_7.out).2.2 t144 p145 q145; (try rw [← Nbq30.out] at hx145_0); obtain rfl : (⟨go9, 0, none⟩ : Addr) = ad145 := (by injection e145); (first | simp only [add_plain] at hx145_0 | simp only [add_at] at hx145_0 | simp only [Addr.add, Nat.zero_add] at hx145_0 | skip); replace p145 := eq_true p145; replace q145 := eq_true q145; have p35 : 0 ≤ (t144 : Int) := of_decide_eq_true (by first | (with_reducible assumption) | assumption); have q35 : (t144 : Int) < ((x7_2.length : Int) : Int) := of_decide_eq_true (by first | (with_reducible assumption) | assumption); obtain ⟨hx35_0, hf35_0⟩ := Kd.R_celln false HO_7.out (t144 : Int) p35 q35; replace p35 := eq_true p35; replace q35 := eq_true q35; obtain ⟨hy40_, hz40_⟩ := Kd.R_celln false HO_7.out (t144 : Int) (of_decide_eq_true (by first | (with_reducible assumption) | assumption)) (of_decide_eq_true (by first | (with_reducible assumption) | assumption)); have HP40 := Kd.R_putg HO_7.out (t144 : Int) true) | ((with_reducible refine gate_store (t := 4) (p := 62) rfl ?_); refine store_event (t := 4) (p := 62) (v := ?vo_w41) (w1 := (w39.setCell ⟨go9, (t144 : Int).toNat, none⟩ (.bool true))) ?hg ?ho ?hn ?hr ?_; (case ho => rfl); (case hg => rfl); (case hn => rfl); (case hr => first | (go_simp; done) | (go_simp; rfl)); intro w41 hw; have hg : w39.grownBy w41 (some go9) := (by rw [hw]; exact HP40.2); have hp_ : Kd.R Kd.bool 4 w41 w.heap.size (fun _ => True) (.slice (some ⟨go9, 0, none⟩) x7_2.length co9) y146 := (by rw [hw, Ny146.out]; exact HP40.1); clear HP40; have n0_ := Aside0.mk (hp_); have n1_ := Aside0.mk (Kd.R_over' (v := (.slice (some ⟨go9, 0, none⟩) x7_2.length co9)) (by (with_reducible repeat (first | apply Kd.R_alloc | apply Kd.R_drewN | apply Kd.R_drew)); exact HO_8.out) (Kd.R_typed HO_7.out) (by decide) hg); have n2_ := Aside0.mk (blk_grown (g := gb134) (o := .cells #[.slice (some ad142) l0_0.length c0_0, .bool a0_1] 28 (0, 0)) (by (with_reducible repeat (first | refine blk_drewN ?_ _ | refine blk_drew ?_ | refine blk_alloc ?_ _)); exact BK134.out) hg (Kd.R_ne HO_7.out BK134.out (by decide))); have n3_ := Aside0.mk ((by rw [hw]; exact below_set (HB.out) GB9.out : Below w.heap.size w w41)); clear HO_7; clear HO_8; clear BK134; clear HB; have HO_7 := n0_; have HO_8 := n1_; have BK134 := n2_; have HB := n3_; clear n0_ n1_ n2_ n3_; clear hg hw hp_) | ((with_reducible refine gate_builtin (b := .append) (xs := #[.tmp 63, .tmp 65]) rfl ?_); at_builtin; refine Kd.R_append (Kd.int .i64) (w0 := w) w.heap.size rfl (.tmp 63) (.tmp 65) 22 3 (.int .i64 0) 8 rfl Try.underlying22 info3 rfl (by decide) (by omega) (.slice (some ad143) x8_2.length co37) x8_2 t144 [.int .i64 t144] (fun _ => True) (fun _ => False) rfl rfl ?aP (fun _ hk => hk.elim) ?aF ?aO ?aB ?aS ?aL ?_; (case aP => exact rfl); (case aB => exact (by repeat (first | (with_reducible first | exact HB.out | apply below_alloc | apply pw_below_drewN | apply below_drew1 | refine below_set ?_ GE134.out) | exact HB.out))); (case aF => exact (fun _ _ => trivial)); (case aO => exact (by (with_reducible repeat (first | apply Kd.R_alloc | apply Kd.R_drewN | apply Kd.R_drew)); exact HO_8.out)); (case aS => exact (below_size (by repeat (first | (with_reducible first | exact HB.out | apply below_alloc | apply pw_below_drewN | apply below_drew1 | refine below_set ?_ GE134.out) | exact HB.out)))); (case aL => have := LMc36.out; omega); intro v148 w42 ho hb hg hat; rw [← Ny147.out] at ho; have n0_ := Aside0.mk (Kd.R_over' (by (with_reducible repeat (first | apply Kd.R_alloc | apply Kd.R_drewN | apply Kd.R_drew)); exact HO_7.out) (Kd.R_typed (by (with_reducible repeat (first | apply Kd.R_alloc | apply Kd.R_drewN | apply Kd.R_drew)); exact HO_8.out)) (by decide) hg); have n1_ := Aside0.mk (blk_grown (g := gb134) (o := .cells #[.slice (some ad142) l0_0.length c0_0, .bool a0_1] 28 (0, 0)) (by (with_reducible repeat (first | refine blk_drewN ?_ _ | refine blk_drew ?_ | refine blk_alloc ?_ _)); exact BK134.out) hg (Kd.R_ne HO_8.out BK134.out (by decide))); have n2_ := Aside0.mk (hb); have n3_ := Aside0.mk (ho); clear HO_7; clear BK134; clear HB; clear HO_8; have HO_7 := n0_; have BK134 := n1_; have HB := n2_; have HO149 := n3_; clear n0_ n1_ n2_ n3_; clear ho hb hg hat))
                                        (try simp only [← hl7_2])
                                        go_roundg k2
                                        case measure => have := HK1.out; have := HK2.out; omega
                                        case rel => exact ⟨(y146), (y147), (wrap64 (x35_2 + 1)), (by first | rfl | (simp; done) | (simp [*]; done)), H', ⟨by have := HK1.out; have := HK2.out; omega⟩, ⟨by (try simp only [hl7_1]); (try simp only [hl7_2]); (with_reducible repeat (first | apply Kd.R_alloc | apply Kd.R_drewN | apply Kd.R_drew)); exact HO_7.out⟩, ⟨by (try simp only [hl7_1]); (try simp only [hl7_2]); (with_reducible repeat (first | apply Kd.R_alloc | apply Kd.R_drewN | apply Kd.R_drew)); exact HO149.out⟩, ⟨by (try simp only [hl7_1]); (try simp only [hl7_2]); (with_reducible repeat (first | refine blk_drewN ?_ _ | refine blk_drew ?_ | refine blk_alloc ?_ _)); exact BK134.out⟩, ⟨by repeat (first | (with_reducible first | exact HB.out | apply below_alloc | apply pw_below_drewN | apply below_drew1 | refine below_set ?_ GE134.out) | exact HB.out)⟩⟩
                                      · rw [if_neg c36] at H
                                        exact absurd H (by simp)
                                  · rw [if_neg c29] at H
                                    exact absurd H (by simp)
                                · rw [if_neg c28] at H
                                  exact absurd H (by simp)
                              · replace c26 := Bool.eq_false_iff.mpr c26
                                subst c26
                                have H1 : ((spec_grIn.f (rd x8_2 x9_1) x35_2).bind fun t150 => (if t150 = true then (if 0 ≤ (Go.bits .xor .i64 (rd x8_2 x9_1) (rd l0_0 x35_2)) then (if (Go.bits .xor .i64 (rd x8_2 x9_1) (rd l0_0 x35_2)) < (x7_2.length : Int) then (if (rdOf false x7_2 (Go.bits .xor .i64 (rd x8_2 x9_1) (rd l0_0 x35_2)) = true) then (spec_liReach.l1 k2 false x7_2 x8_2 x9_1 l0_0 (l0_0.length : Int) (wrap64 (x35_2 + 1)) l0_0 a0_1) else (if x8_2.length < 17592186044416 then (spec_liReach.l1 k2 false (x7_2.set ((Go.bits .xor .i64 (rd x8_2 x9_1) (rd l0_0 x35_2)) : Int).toNat true) (x8_2 ++ [Go.bits .xor .i64 (rd x8_2 x9_1) (rd l0_0 x35_2)]) x9_1 l0_0 (l0_0.length : Int) (wrap64 (x35_2 + 1)) l0_0 a0_1) else (none))) else (none)) else (none)) else (if 0 ≤ (rd x8_2 x9_1) then (if (rd x8_2 x9_1) < (x7_2.length : Int) then (if (rdOf false x7_2 (rd x8_2 x9_1) = true) then (spec_liReach.l1 k2 false x7_2 x8_2 x9_1 l0_0 (l0_0.length : Int) (wrap64 (x35_2 + 1)) l0_0 a0_1) else (if x8_2.length < 17592186044416 then (spec_liReach.l1 k2 false (x7_2.set ((rd x8_2 x9_1) : Int).toNat true) (x8_2 ++ [rd x8_2 x9_1]) x9_1 l0_0 (l0_0.length : Int) (wrap64 (x35_2 + 1)) l0_0 a0_1) else (none))) else (none)) else (none)))) = some r := by rw [if_neg (show ¬ (false = true) by decide)] at H; exact H
                                clear H
                                have H := H1
                                clear H1
                                replace H := Option.bind_eq_some_iff.mp H
                                obtain ⟨t150, A430, H⟩ := H
                                replace H : (if t150 = true then (if 0 ≤ (Go.bits .xor .i64 (rd x8_2 x9_1) (rd l0_0 x35_2)) then (if (Go.bits .xor .i64 (rd x8_2 x9_1) (rd l0_0 x35_2)) < (x7_2.length : Int) then (if (rdOf false x7_2 (Go.bits .xor .i64 (rd x8_2 x9_1) (rd l0_0 x35_2)) = true) then (spec_liReach.l1 k2 false x7_2 x8_2 x9_1 l0_0 (l0_0.length : Int) (wrap64 (x35_2 + 1)) l0_0 a0_1) else (if x8_2.length < 17592186044416 then (spec_liReach.l1 k2 false (x7_2.set ((Go.bits .xor .i64 (rd x8_2 x9_1) (rd l0_0 x35_2)) : Int).toNat true) (x8_2 ++ [Go.bits .xor .i64 (rd x8_2 x9_1) (rd l0_0 x35_2)]) x9_1 l0_0 (l0_0.length : Int) (wrap64 (x35_2 + 1)) l0_0 a0_1) else (none))) else (none)) else (none)) else (if 0 ≤ (rd x8_2 x9_1) then (if (rd x8_2 x9_1) < (x7_2.length : Int) then (if (rdOf false x7_2 (rd x8_2 x9_1) = true) then (spec_liReach.l1 k2 false x7_2 x8_2 x9_1 l0_0 (l0_0.length : Int) (wrap64 (x35_2 + 1)) l0_0 a0_1) else (if x8_2.length < 17592186044416 then (spec_liReach.l1 k2 false (x7_2.set ((rd x8_2 x9_1) : Int).toNat true) (x8_2 ++ [rd x8_2 x9_1]) x9_1 l0_0 (l0_0.length : Int) (wrap64 (x35_2 + 1)) l0_0 a0_1) else (none))) else (none)) else (none))) = some r := H
                                have A43 := Aside0.mk A430
                                clear A430
                                by_cases c44 : t150 = true
                                · subst c44
                                  have H1 : (if 0 ≤ (Go.bits .xor .i64 (rd x8_2 x9_1) (rd l0_0 x35_2)) then (if (Go.bits .xor .i64 (rd x8_2 x9_1) (rd l0_0 x35_2)) < (x7_2.length : Int) then (if (rdOf false x7_2 (Go.bits .xor .i64 (rd x8_2 x9_1) (rd l0_0 x35_2)) = true) then (spec_liReach.l1 k2 false x7_2 x8_2 x9_1 l0_0 (l0_0.length : Int) (wrap64 (x35_2 + 1)) l0_0 a0_1) else (if x8_2.length < 17592186044416 then (spec_liReach.l1 k2 false (x7_2.set ((Go.bits .xor .i64 (rd x8_2 x9_1) (rd l0_0 x35_2)) : Int).toNat true) (x8_2 ++ [Go.bits .xor .i64 (rd x8_2 x9_1) (rd l0_0 x35_2)]) x9_1 l0_0 (l0_0.length : Int) (wrap64 (x35_2 + 1)) l0_0 a0_1) else (none))) else (none)) else (none)) = some r := by rw [if_pos rfl] at H; exact H
                                  clear H
                                  have H := H1
                                  clear H1
                                  by_cases c45 : 0 ≤ (Go.bits .xor .i64 (rd x8_2 x9_1) (rd l0_0 x35_2))
                                  · rw [if_pos c45] at H
                                    have c45b0 : decide (0 ≤ (Go.bits .xor .i64 (rd x8_2 x9_1) (rd l0_0 x35_2))) = true := decide_eq_true c45
                                    clear c45
                                    by_cases c46 : (Go.bits .xor .i64 (rd x8_2 x9_1) (rd l0_0 x35_2)) < (x7_2.length : Int)
                                    · rw [if_pos c46] at H
                                      have c46b0 : decide ((Go.bits .xor .i64 (rd x8_2 x9_1) (rd l0_0 x35_2)) < (x7_2.length : Int)) = true := decide_eq_true c46
                                      (try (have c46b0h := c46b0; simp only [hl7_1, hl7_2] at c46b0h))
                                      clear c46
                                      obtain ⟨bq47, hbq47⟩ : ∃ b_ : Bool, b_ = (rdOf false x7_2 (Go.bits .xor .i64 (rd x8_2 x9_1) (rd l0_0 x35_2))) := ⟨_, rfl⟩
                                      replace H : (if (bq47 = true) then (spec_liReach.l1 k2 false x7_2 x8_2 x9_1 l0_0 (l0_0.length : Int) (wrap64 (x35_2 + 1)) l0_0 a0_1) else (if x8_2.length < 17592186044416 then (spec_liReach.l1 k2 false (x7_2.set ((Go.bits .xor .i64 (rd x8_2 x9_1) (rd l0_0 x35_2)) : Int).toNat true) (x8_2 ++ [Go.bits .xor .i64 (rd x8_2 x9_1) (rd l0_0 x35_2)]) x9_1 l0_0 (l0_0.length : Int) (wrap64 (x35_2 + 1)) l0_0 a0_1) else (none))) = some r := by rw [← hbq47] at H; exact H
                                      have Nbq47 := Aside0.mk hbq47
                                      clear hbq47
                                      by_cases c48 : (bq47 = true)
                                      · subst c48
                                        have H1 : (spec_liReach.l1 k2 false x7_2 x8_2 x9_1 l0_0 (l0_0.length : Int) (wrap64 (x35_2 + 1)) l0_0 a0_1) = some r := by rw [if_pos rfl] at H; exact H
                                        clear H
                                        have H := H1
                                        clear H1
                                        have H' := Aside0.mk H
                                        clear H
                                        have p142 : 0 ≤ (x35_2 : Int) := of_decide_eq_true (by first | (with_reducible assumption) | assumption)
                                        have q142 : x35_2 < (l0_0.length : Int) := of_decide_eq_true (by first | (with_reducible assumption) | assumption)
                                        obtain ⟨ad142, e142, hx142_0⟩ := Kd.at_int HR0_0.out x35_2 p142 q142
                                        cases e142
                                        replace hx142_0 := (HB.out.cell (World.block_lt_of_cell? w _ hx142_0)).trans hx142_0
                                        replace p142 := eq_true p142
                                        replace q142 := eq_true q142
                                        obtain ⟨Ao49, co49, eo49⟩ := Kd.R_slice HO_8.out
                                        subst eo49
                                        have p143 : 0 ≤ (x9_1 : Int) := of_decide_eq_true (by first | (with_reducible assumption) | assumption)
                                        have q143 : x9_1 < (x8_2.length : Int) := of_decide_eq_true (by first | (with_reducible assumption) | assumption)
                                        obtain ⟨ad143, e143, hx143_0⟩ := Kd.at_int (Kd.R_reads' HO_8.out).2.2 x9_1 p143 q143
                                        cases e143
                                        replace p143 := eq_true p143
                                        replace q143 := eq_true q143
                                        go_wp2_with (first | ((with_reducible refine gate_callee (f := 58) rfl ?_); refine goesL_ (some 51) rfl rfl Try.func58 (by kernel_rfl) rfl #[.int .i64 (rd x8_2 x9_1), .int .i64 x35_2] rfl (by (try simp only [List.map_toArray, List.map_cons, List.map_nil]); first | done | rfl | (simp only [List.length_drop, List.length_take]; rfl)) ?_; (with_reducible refine (spec_grIn.calls (rd x8_2 x9_1) x35_2 true _ A43.out).mono ?_); rintro e w' ⟨rfl, ⟨nd, rfl⟩⟩; refine ⟨_, rfl, ?_⟩; have p151 : 0 ≤ ((Go.bits .xor .i64 (rd x8_2 x9_1) (rd l0_0 x35_2)) : Int) := of_decide_eq_true (by first | (with_reducible assumption) | assumption); have q151 : (Go.bits .xor .i64 (rd x8_2 x9_1) (rd l0_0 x35_2)) < (x7_2.length : Int) := of_decide_eq_true (by first | (with_reducible assumption) | assumption); obtain ⟨ad151, e151, hx151_0⟩ := Kd.at_bool (Kd.R_reads' HO_7.out).2.2 (Go.bits .xor .i64 (rd x8_2 x9_1) (rd l0_0 x35_2)) p151 q151; (try rw [← Nbq47.out] at hx151_0); obtain rfl : (⟨go9, 0, none⟩ : Addr) = ad151 := (by injection e151); (first | simp only [add_plain] at hx151_0 | simp only [add_at] at hx151_0 | simp only [Addr.add, Nat.zero_add] at hx151_0 | skip); replace p151 := eq_true p151; replace q151 := eq_true q151))
                                        (try simp only [← hl7_2])
                                        go_roundg k2
                                        case measure => have := HK1.out; have := HK2.out; omega
                                        case rel => exact ⟨(x7_2), (x8_2), (wrap64 (x35_2 + 1)), (by first | rfl | (simp; done) | (simp [*]; done)), H', ⟨by have := HK1.out; have := HK2.out; omega⟩, ⟨by (try simp only [hl7_1]); (try simp only [hl7_2]); (with_reducible repeat (first | apply Kd.R_alloc | apply Kd.R_drewN | apply Kd.R_drew)); exact HO_7.out⟩, ⟨by (try simp only [hl7_1]); (try simp only [hl7_2]); (with_reducible repeat (first | apply Kd.R_alloc | apply Kd.R_drewN | apply Kd.R_drew)); exact HO_8.out⟩, ⟨by (try simp only [hl7_1]); (try simp only [hl7_2]); (with_reducible repeat (first | refine blk_drewN ?_ _ | refine blk_drew ?_ | refine blk_alloc ?_ _)); exact BK134.out⟩, ⟨by repeat (first | (with_reducible first | exact HB.out | apply below_alloc | apply pw_below_drewN | apply below_drew1 | refine below_set ?_ GE134.out) | exact HB.out)⟩⟩
                                      · replace c48 := Bool.eq_false_iff.mpr c48
                                        subst c48
                                        have H1 : (if x8_2.length < 17592186044416 then (spec_liReach.l1 k2 false (x7_2.set ((Go.bits .xor .i64 (rd x8_2 x9_1) (rd l0_0 x35_2)) : Int).toNat true) (x8_2 ++ [Go.bits .xor .i64 (rd x8_2 x9_1) (rd l0_0 x35_2)]) x9_1 l0_0 (l0_0.length : Int) (wrap64 (x35_2 + 1)) l0_0 a0_1) else (none)) = some r := by rw [if_neg (show ¬ (false = true) by decide)] at H; exact H
                                        clear H
                                        have H := H1
                                        clear H1
                                        obtain ⟨y152, hy152⟩ : ∃ y_ : List Bool, y_ = (x7_2.set ((Go.bits .xor .i64 (rd x8_2 x9_1) (rd l0_0 x35_2)) : Int).toNat true) := ⟨_, rfl⟩
                                        replace H : (if x8_2.length < 17592186044416 then (spec_liReach.l1 k2 false y152 (x8_2 ++ [Go.bits .xor .i64 (rd x8_2 x9_1) (rd l0_0 x35_2)]) x9_1 l0_0 (l0_0.length : Int) (wrap64 (x35_2 + 1)) l0_0 a0_1) else (none)) = some r := by first | (rw [hy152]; with_reducible exact H) | (have H2_ := (Option.bind_some _ _).symm.trans H; rw [hy152]; with_reducible exact H2_) | (have H2_ := (Option.bind_some _ _).symm.trans H; with_reducible exact H2_) | with_reducible exact H | (rw [hy152]; exact H) | exact H
                                        have Ny152 := Aside0.mk hy152
                                        clear hy152
                                        by_cases c51 : x8_2.length < 17592186044416
                                        · rw [if_pos c51] at H
                                          have LMc51 := Aside0.mk c51
                                          clear c51
                                          obtain ⟨y153, hy153⟩ : ∃ y_ : List Int, y_ = (x8_2 ++ [Go.bits .xor .i64 (rd x8_2 x9_1) (rd l0_0 x35_2)]) := ⟨_, rfl⟩
                                          replace H : (spec_liReach.l1 k2 false y152 y153 x9_1 l0_0 (l0_0.length : Int) (wrap64 (x35_2 + 1)) l0_0 a0_1) = some r := by first | (rw [hy153]; with_reducible exact H) | (have H2_ := (Option.bind_some _ _).symm.trans H; rw [hy153]; with_reducible exact H2_) | (have H2_ := (Option.bind_some _ _).symm.trans H; with_reducible exact H2_) | with_reducible exact H | (rw [hy153]; exact H) | exact H
                                          have Ny153 := Aside0.mk hy153
                                          clear hy153
                                          have H' := Aside0.mk H
                                          clear H
                                          have p142 : 0 ≤ (x35_2 : Int) := of_decide_eq_true (by first | (with_reducible assumption) | assumption)
                                          have q142 : x35_2 < (l0_0.length : Int) := of_decide_eq_true (by first | (with_reducible assumption) | assumption)
                                          obtain ⟨ad142, e142, hx142_0⟩ := Kd.at_int HR0_0.out x35_2 p142 q142
                                          cases e142
                                          replace hx142_0 := (HB.out.cell (World.block_lt_of_cell? w _ hx142_0)).trans hx142_0
                                          replace p142 := eq_true p142
                                          replace q142 := eq_true q142
                                          obtain ⟨Ao52, co52, eo52⟩ := Kd.R_slice HO_8.out
                                          subst eo52
                                          have p143 : 0 ≤ (x9_1 : Int) := of_decide_eq_true (by first | (with_reducible assumption) | assumption)
                                          have q143 : x9_1 < (x8_2.length : Int) := of_decide_eq_true (by first | (with_reducible assumption) | assumption)
                                          obtain ⟨ad143, e143, hx143_0⟩ := Kd.at_int (Kd.R_reads' HO_8.out).2.2 x9_1 p143 q143
                                          cases e143
                                          replace p143 := eq_true p143
                                          replace q143 := eq_true q143
                                          go_wp2_with (first | ((with_reducible refine gate_callee (f := 58) rfl ?_); refine goesL_ (some 51) rfl rfl Try.func58 (by kernel_rfl) rfl #[.int .i64 (rd x8_2 x9_1), .int .i64 x35_2] rfl (by (try simp only [List.map_toArray, List.map_cons, List.map_nil]); first | done | rfl | (simp only [List.length_drop, List.length_take]; rfl)) ?_; (with_reducible refine (spec_grIn.calls (rd x8_2 x9_1) x35_2 true _ A43.out).mono ?_); rintro e w' ⟨rfl, ⟨nd, rfl⟩⟩; refine ⟨_, rfl, ?_⟩; (try (rw [drewN_self wr]; generalize hq_ : World.drewN wr _ = wr; have n0_ : Aside0 (Kd.R Kd.bool 4 wr w.heap.size (fun _ => True) (.slice (some ⟨go9, 0, none⟩) x7_2.length co9) x7_2) := ⟨by rw [← hq_]; exact (by (with_reducible repeat (first | apply Kd.R_alloc | apply Kd.R_drewN | apply Kd.R_drew)); exact HO_7.out)⟩; have n1_ : Aside0 (Kd.R (Kd.int .i64) 3 wr w.heap.size (fun _ => True) (.slice (some ad143) x8_2.length co52) x8_2) := ⟨by rw [← hq_]; exact (by (with_reducible repeat (first | apply Kd.R_alloc | apply Kd.R_drewN | apply Kd.R_drew)); exact HO_8.out)⟩; have n2_ : Aside0 (wr.heap[gb134]? = some (.cells #[.slice (some ad142) l0_0.length c0_0, .bool a0_1] 28 (0, 0))) := ⟨by rw [← hq_]; exact (by (with_reducible repeat (first | refine blk_drewN ?_ _ | refine blk_drew ?_ | refine blk_alloc ?_ _)); exact BK134.out)⟩; have n3_ : Aside0 (Below w.heap.size w wr) := ⟨by rw [← hq_]; exact (by repeat (first | (with_reducible first | exact HB.out | apply below_alloc | apply pw_below_drewN | apply below_drew1 | refine below_set ?_ GE134.out) | exact HB.out))⟩; clear HO_7 HO_8 BK134 HB hq_; have HO_7 := n0_; have HO_8 := n1_; have BK134 := n2_; have HB := n3_; clear n0_ n1_ n2_ n3_)); have p151 : 0 ≤ ((Go.bits .xor .i64 (rd x8_2 x9_1) (rd l0_0 x35_2)) : Int) := of_decide_eq_true (by first | (with_reducible assumption) | assumption); have q151 : (Go.bits .xor .i64 (rd x8_2 x9_1) (rd l0_0 x35_2)) < (x7_2.length : Int) := of_decide_eq_true (by first | (with_reducible assumption) | assumption); obtain ⟨ad151, e151, hx151_0⟩ := Kd.at_bool (Kd.R_reads' HO_7.out).2.2 (Go.bits .xor .i64 (rd x8_2 x9_1) (rd l0_0 x35_2)) p151 q151; (try rw [← Nbq47.out] at hx151_0); obtain rfl : (⟨go9, 0, none⟩ : Addr) = ad151 := (by injection e151); (first | simp only [add_plain] at hx151_0 | simp only [add_at] at hx151_0 | simp only [Addr.add, Nat.zero_add] at hx151_0 | skip); replace p151 := eq_true p151; replace q151 := eq_true q151; have p50 : 0 ≤ ((Go.bits .xor .i64 (rd x8_2 x9_1) (rd l0_0 x35_2)) : Int) := of_decide_eq_true (by first | (with_reducible assumption) | assumption); have q50 : ((Go.bits .xor .i64 (rd x8_2 x9_1) (rd l0_0 x35_2)) : Int) < ((x7_2.length : Int) : Int) := of_decide_eq_true (by first | (with_reducible assumption) | assumption); obtain ⟨hx50_0, hf50_0⟩ := Kd.R_celln false HO_7.out ((Go.bits .xor .i64 (rd x8_2 x9_1) (rd l0_0 x35_2)) : Int) p50 q50; replace p50 := eq_true p50; replace q50 := eq_true q50; obtain ⟨hy53_, hz53_⟩ := Kd.R_celln false HO_7.out ((Go.bits .xor .i64 (rd x8_2 x9_1) (rd l0_0 x35_2)) : Int) (of_decide_eq_true (by first | (with_reducible assumption) | assumption)) (of_decide_eq_true (by first | (with_reducible assumption) | assumption)); have HP53 := Kd.R_putg HO_7.out ((Go.bits .xor .i64 (rd x8_2 x9_1) (rd l0_0 x35_2)) : Int) true) | ((with_reducible refine gate_store (t := 4) (p := 62) rfl ?_); refine store_event (t := 4) (p := 62) (v := ?vo_w54) (w1 := (wr.setCell ⟨go9, ((Go.bits .xor .i64 (rd x8_2 x9_1) (rd l0_0 x35_2)) : Int).toNat, none⟩ (.bool true))) ?hg ?ho ?hn ?hr ?_; (case ho => rfl); (case hg => rfl); (case hn => rfl); (case hr => first | (go_simp; done) | (go_simp; rfl)); intro w54 hw; have hg : wr.grownBy w54 (some go9) := (by rw [hw]; exact HP53.2); have hp_ : Kd.R Kd.bool 4 w54 w.heap.size (fun _ => True) (.slice (some ⟨go9, 0, none⟩) x7_2.length co9) y152 := (by rw [hw, Ny152.out]; exact HP53.1); clear HP53; have n0_ := Aside0.mk (hp_); have n1_ := Aside0.mk (Kd.R_over' (v := (.slice (some ⟨go9, 0, none⟩) x7_2.length co9)) (by (with_reducible repeat (first | apply Kd.R_alloc | apply Kd.R_drewN | apply Kd.R_drew)); exact HO_8.out) (Kd.R_typed HO_7.out) (by decide) hg); have n2_ := Aside0.mk (blk_grown (g := gb134) (o := .cells #[.slice (some ad142) l0_0.length c0_0, .bool a0_1] 28 (0, 0)) (by (with_reducible repeat (first | refine blk_drewN ?_ _ | refine blk_drew ?_ | refine blk_alloc ?_ _)); exact BK134.out) hg (Kd.R_ne HO_7.out BK134.out (by decide))); have n3_ := Aside0.mk ((by rw [hw]; exact below_set (HB.out) GB9.out : Below w.heap.size w w54)); clear HO_7; clear HO_8; clear BK134; clear HB; have HO_7 := n0_; have HO_8 := n1_; have BK134 := n2_; have HB := n3_; clear n0_ n1_ n2_ n3_; clear hg hw hp_) | ((with_reducible refine gate_builtin (b := .append) (xs := #[.tmp 63, .tmp 65]) rfl ?_); at_builtin; refine Kd.R_append (Kd.int .i64) (w0 := w) w.heap.size rfl (.tmp 63) (.tmp 65) 22 3 (.int .i64 0) 8 rfl Try.underlying22 info3 rfl (by decide) (by omega) (.slice (some ad143) x8_2.length co52) x8_2 (Go.bits .xor .i64 (rd x8_2 x9_1) (rd l0_0 x35_2)) [.int .i64 (Go.bits .xor .i64 (rd x8_2 x9_1) (rd l0_0 x35_2))] (fun _ => True) (fun _ => False) rfl rfl ?aP (fun _ hk => hk.elim) ?aF ?aO ?aB ?aS ?aL ?_; (case aP => exact rfl); (case aB => exact (by repeat (first | (with_reducible first | exact HB.out | apply below_alloc | apply pw_below_drewN | apply below_drew1 | refine below_set ?_ GE134.out) | exact HB.out))); (case aF => exact (fun _ _ => trivial)); (case aO => exact (by (with_reducible repeat (first | apply Kd.R_alloc | apply Kd.R_drewN | apply Kd.R_drew)); exact HO_8.out)); (case aS => exact (below_size (by repeat (first | (with_reducible first | exact HB.out | apply below_alloc | apply pw_below_drewN | apply below_drew1 | refine below_set ?_ GE134.out) | exact HB.out)))); (case aL => have := LMc51.out; omega); intro v154 w55 ho hb hg hat; rw [← Ny153.out] at ho; have n0_ := Aside0.mk (Kd.R_over' (by (with_reducible repeat (first | apply Kd.R_alloc | apply Kd.R_drewN | apply Kd.R_drew)); exact HO_7.out) (Kd.R_typed (by (with_reducible repeat (first | apply Kd.R_alloc | apply Kd.R_drewN | apply Kd.R_drew)); exact HO_8.out)) (by decide) hg); have n1_ := Aside0.mk (blk_grown (g := gb134) (o := .cells #[.slice (some ad142) l0_0.length c0_0, .bool a0_1] 28 (0, 0)) (by (with_reducible repeat (first | refine blk_drewN ?_ _ | refine blk_drew ?_ | refine blk_alloc ?_ _)); exact BK134.out) hg (Kd.R_ne HO_8.out BK134.out (by decide))); have n2_ := Aside0.mk (hb); have n3_ := Aside0.mk (ho); clear HO_7; clear BK134; clear HB; clear HO_8; have HO_7 := n0_; have BK134 := n1_; have HB := n2_; have HO155 := n3_; clear n0_ n1_ n2_ n3_; clear ho hb hg hat))
                                          (try simp only [← hl7_2])
                                          go_roundg k2
                                          case measure => have := HK1.out; have := HK2.out; omega
                                          case rel => exact ⟨(y152), (y153), (wrap64 (x35_2 + 1)), (by first | rfl | (simp; done) | (simp [*]; done)), H', ⟨by have := HK1.out; have := HK2.out; omega⟩, ⟨by (try simp only [hl7_1]); (try simp only [hl7_2]); (with_reducible repeat (first | apply Kd.R_alloc | apply Kd.R_drewN | apply Kd.R_drew)); exact HO_7.out⟩, ⟨by (try simp only [hl7_1]); (try simp only [hl7_2]); (with_reducible repeat (first | apply Kd.R_alloc | apply Kd.R_drewN | apply Kd.R_drew)); exact HO155.out⟩, ⟨by (try simp only [hl7_1]); (try simp only [hl7_2]); (with_reducible repeat (first | refine blk_drewN ?_ _ | refine blk_drew ?_ | refine blk_alloc ?_ _)); exact BK134.out⟩, ⟨by repeat (first | (with_reducible first | exact HB.out | apply below_alloc | apply pw_below_drewN | apply below_drew1 | refine below_set ?_ GE134.out) | exact HB.out)⟩⟩
                                        · rw [if_neg c51] at H
                                          exact absurd H (by simp)
                                    · rw [if_neg c46] at H
                                      exact absurd H (by simp)
                                  · rw [if_neg c45] at H
                                    exact absurd H (by simp)
                                · replace c44 := Bool.eq_false_iff.mpr c44
                                  subst c44
                                  have H1 : (if 0 ≤ (rd x8_2 x9_1) then (if (rd x8_2 x9_1) < (x7_2.length : Int) then (if (rdOf false x7_2 (rd x8_2 x9_1) = true) then (spec_liReach.l1 k2 false x7_2 x8_2 x9_1 l0_0 (l0_0.length : Int) (wrap64 (x35_2 + 1)) l0_0 a0_1) else (if x8_2.length < 17592186044416 then (spec_liReach.l1 k2 false (x7_2.set ((rd x8_2 x9_1) : Int).toNat true) (x8_2 ++ [rd x8_2 x9_1]) x9_1 l0_0 (l0_0.length : Int) (wrap64 (x35_2 + 1)) l0_0 a0_1) else (none))) else (none)) else (none)) = some r := by rw [if_neg (show ¬ (false = true) by decide)] at H; exact H
                                  clear H
                                  have H := H1
                                  clear H1
                                  by_cases c56 : 0 ≤ (rd x8_2 x9_1)
                                  · rw [if_pos c56] at H
                                    have c56b0 : decide (0 ≤ (rd x8_2 x9_1)) = true := decide_eq_true c56
                                    clear c56
                                    by_cases c57 : (rd x8_2 x9_1) < (x7_2.length : Int)
                                    · rw [if_pos c57] at H
                                      have c57b0 : decide ((rd x8_2 x9_1) < (x7_2.length : Int)) = true := decide_eq_true c57
                                      (try (have c57b0h := c57b0; simp only [hl7_1, hl7_2] at c57b0h))
                                      clear c57
                                      obtain ⟨bq58, hbq58⟩ : ∃ b_ : Bool, b_ = (rdOf false x7_2 (rd x8_2 x9_1)) := ⟨_, rfl⟩
                                      replace H : (if (bq58 = true) then (spec_liReach.l1 k2 false x7_2 x8_2 x9_1 l0_0 (l0_0.length : Int) (wrap64 (x35_2 + 1)) l0_0 a0_1) else (if x8_2.length < 17592186044416 then (spec_liReach.l1 k2 false (x7_2.set ((rd x8_2 x9_1) : Int).toNat true) (x8_2 ++ [rd x8_2 x9_1]) x9_1 l0_0 (l0_0.length : Int) (wrap64 (x35_2 + 1)) l0_0 a0_1) else (none))) = some r := by rw [← hbq58] at H; exact H
                                      have Nbq58 := Aside0.mk hbq58
                                      clear hbq58
                                      by_cases c59 : (bq58 = true)
                                      · subst c59
                                        have H1 : (spec_liReach.l1 k2 false x7_2 x8_2 x9_1 l0_0 (l0_0.length : Int) (wrap64 (x35_2 + 1)) l0_0 a0_1) = some r := by rw [if_pos rfl] at H; exact H
                                        clear H
                                        have H := H1
                                        clear H1
                                        have H' := Aside0.mk H
                                        clear H
                                        have p142 : 0 ≤ (x35_2 : Int) := of_decide_eq_true (by first | (with_reducible assumption) | assumption)
                                        have q142 : x35_2 < (l0_0.length : Int) := of_decide_eq_true (by first | (with_reducible assumption) | assumption)
                                        obtain ⟨ad142, e142, hx142_0⟩ := Kd.at_int HR0_0.out x35_2 p142 q142
                                        cases e142
                                        replace hx142_0 := (HB.out.cell (World.block_lt_of_cell? w _ hx142_0)).trans hx142_0
                                        replace p142 := eq_true p142
                                        replace q142 := eq_true q142
                                        obtain ⟨Ao60, co60, eo60⟩ := Kd.R_slice HO_8.out
                                        subst eo60
                                        have p143 : 0 ≤ (x9_1 : Int) := of_decide_eq_true (by first | (with_reducible assumption) | assumption)
                                        have q143 : x9_1 < (x8_2.length : Int) := of_decide_eq_true (by first | (with_reducible assumption) | assumption)
                                        obtain ⟨ad143, e143, hx143_0⟩ := Kd.at_int (Kd.R_reads' HO_8.out).2.2 x9_1 p143 q143
                                        cases e143
                                        replace p143 := eq_true p143
                                        replace q143 := eq_true q143
                                        go_wp2_with (first | ((with_reducible refine gate_callee (f := 58) rfl ?_); refine goesL_ (some 51) rfl rfl Try.func58 (by kernel_rfl) rfl #[.int .i64 (rd x8_2 x9_1), .int .i64 x35_2] rfl (by (try simp only [List.map_toArray, List.map_cons, List.map_nil]); first | done | rfl | (simp only [List.length_drop, List.length_take]; rfl)) ?_; (with_reducible refine (spec_grIn.calls (rd x8_2 x9_1) x35_2 false _ A43.out).mono ?_); rintro e w' ⟨rfl, ⟨nd, rfl⟩⟩; refine ⟨_, rfl, ?_⟩; have p156 : 0 ≤ ((rd x8_2 x9_1) : Int) := of_decide_eq_true (by first | (with_reducible assumption) | assumption); have q156 : (rd x8_2 x9_1) < (x7_2.length : Int) := of_decide_eq_true (by first | (with_reducible assumption) | assumption); obtain ⟨ad156, e156, hx156_0⟩ := Kd.at_bool (Kd.R_reads' HO_7.out).2.2 (rd x8_2 x9_1) p156 q156; (try rw [← Nbq58.out] at hx156_0); obtain rfl : (⟨go9, 0, none⟩ : Addr) = ad156 := (by injection e156); (first | simp only [add_plain] at hx156_0 | simp only [add_at] at hx156_0 | simp only [Addr.add, Nat.zero_add] at hx156_0 | skip); replace p156 := eq_true p156; replace q156 := eq_true q156))
                                        (try simp only [← hl7_2])
                                        go_roundg k2
                                        case measure => have := HK1.out; have := HK2.out; omega
                                        case rel => exact ⟨(x7_2), (x8_2), (wrap64 (x35_2 + 1)), (by first | rfl | (simp; done) | (simp [*]; done)), H', ⟨by have := HK1.out; have := HK2.out; omega⟩, ⟨by (try simp only [hl7_1]); (try simp only [hl7_2]); (with_reducible repeat (first | apply Kd.R_alloc | apply Kd.R_drewN | apply Kd.R_drew)); exact HO_7.out⟩, ⟨by (try simp only [hl7_1]); (try simp only [hl7_2]); (with_reducible repeat (first | apply Kd.R_alloc | apply Kd.R_drewN | apply Kd.R_drew)); exact HO_8.out⟩, ⟨by (try simp only [hl7_1]); (try simp only [hl7_2]); (with_reducible repeat (first | refine blk_drewN ?_ _ | refine blk_drew ?_ | refine blk_alloc ?_ _)); exact BK134.out⟩, ⟨by repeat (first | (with_reducible first | exact HB.out | apply below_alloc | apply pw_below_drewN | apply below_drew1 | refine below_set ?_ GE134.out) | exact HB.out)⟩⟩
                                      · replace c59 := Bool.eq_false_iff.mpr c59
                                        subst c59
                                        have H1 : (if x8_2.length < 17592186044416 then (spec_liReach.l1 k2 false (x7_2.set ((rd x8_2 x9_1) : Int).toNat true) (x8_2 ++ [rd x8_2 x9_1]) x9_1 l0_0 (l0_0.length : Int) (wrap64 (x35_2 + 1)) l0_0 a0_1) else (none)) = some r := by rw [if_neg (show ¬ (false = true) by decide)] at H; exact H
                                        clear H
                                        have H := H1
                                        clear H1
                                        obtain ⟨y157, hy157⟩ : ∃ y_ : List Bool, y_ = (x7_2.set ((rd x8_2 x9_1) : Int).toNat true) := ⟨_, rfl⟩
                                        replace H : (if x8_2.length < 17592186044416 then (spec_liReach.l1 k2 false y157 (x8_2 ++ [rd x8_2 x9_1]) x9_1 l0_0 (l0_0.length : Int) (wrap64 (x35_2 + 1)) l0_0 a0_1) else (none)) = some r := by first | (rw [hy157]; with_reducible exact H) | (have H2_ := (Option.bind_some _ _).symm.trans H; rw [hy157]; with_reducible exact H2_) | (have H2_ := (Option.bind_some _ _).symm.trans H; with_reducible exact H2_) | with_reducible exact H | (rw [hy157]; exact H) | exact H
                                        have Ny157 := Aside0.mk hy157
                                        clear hy157
                                        by_cases c62 : x8_2.length < 17592186044416
                                        · rw [if_pos c62] at H
                                          have LMc62 := Aside0.mk c62
                                          clear c62
                                          obtain ⟨y158, hy158⟩ : ∃ y_ : List Int, y_ = (x8_2 ++ [rd x8_2 x9_1]) := ⟨_, rfl⟩
                                          replace H : (spec_liReach.l1 k2 false y157 y158 x9_1 l0_0 (l0_0.length : Int) (wrap64 (x35_2 + 1)) l0_0 a0_1) = some r := by first | (rw [hy158]; with_reducible exact H) | (have H2_ := (Option.bind_some _ _).symm.trans H; rw [hy158]; with_reducible exact H2_) | (have H2_ := (Option.bind_some _ _).symm.trans H; with_reducible exact H2_) | with_reducible exact H | (rw [hy158]; exact H) | exact H
                                          have Ny158 := Aside0.mk hy158
                                          clear hy158
                                          have H' := Aside0.mk H
                                          clear H
                                          have p142 : 0 ≤ (x35_2 : Int) := of_decide_eq_true (by first | (with_reducible assumption) | assumption)
                                          have q142 : x35_2 < (l0_0.length : Int) := of_decide_eq_true (by first | (with_reducible assumption) | assumption)
                                          obtain ⟨ad142, e142, hx142_0⟩ := Kd.at_int HR0_0.out x35_2 p142 q142
                                          cases e142
                                          replace hx142_0 := (HB.out.cell (World.block_lt_of_cell? w _ hx142_0)).trans hx142_0
                                          replace p142 := eq_true p142
                                          replace q142 := eq_true q142
                                          obtain ⟨Ao63, co63, eo63⟩ := Kd.R_slice HO_8.out
                                          subst eo63
                                          have p143 : 0 ≤ (x9_1 : Int) := of_decide_eq_true (by first | (with_reducible assumption) | assumption)
                                          have q143 : x9_1 < (x8_2.length : Int) := of_decide_eq_true (by first | (with_reducible assumption) | assumption)
                                          obtain ⟨ad143, e143, hx143_0⟩ := Kd.at_int (Kd.R_reads' HO_8.out).2.2 x9_1 p143 q143
                                          cases e143
                                          replace p143 := eq_true p143
                                          replace q143 := eq_true q143
                                          go_wp2_with (first | ((with_reducible refine gate_callee (f := 58) rfl ?_); refine goesL_ (some 51) rfl rfl Try.func58 (by kernel_rfl) rfl #[.int .i64 (rd x8_2 x9_1), .int .i64 x35_2] rfl (by (try simp only [List.map_toArray, List.map_cons, List.map_nil]); first | done | rfl | (simp only [List.length_drop, List.length_take]; rfl)) ?_; (with_reducible refine (spec_grIn.calls (rd x8_2 x9_1) x35_2 false _ A43.out).mono ?_); rintro e w' ⟨rfl, ⟨nd, rfl⟩⟩; refine ⟨_, rfl, ?_⟩; (try (rw [drewN_self wr]; generalize hq_ : World.drewN wr _ = wr; have n0_ : Aside0 (Kd.R Kd.bool 4 wr w.heap.size (fun _ => True) (.slice (some ⟨go9, 0, none⟩) x7_2.length co9) x7_2) := ⟨by rw [← hq_]; exact (by (with_reducible repeat (first | apply Kd.R_alloc | apply Kd.R_drewN | apply Kd.R_drew)); exact HO_7.out)⟩; have n1_ : Aside0 (Kd.R (Kd.int .i64) 3 wr w.heap.size (fun _ => True) (.slice (some ad143) x8_2.length co63) x8_2) := ⟨by rw [← hq_]; exact (by (with_reducible repeat (first | apply Kd.R_alloc | apply Kd.R_drewN | apply Kd.R_drew)); exact HO_8.out)⟩; have n2_ : Aside0 (wr.heap[gb134]? = some (.cells #[.slice (some ad142) l0_0.length c0_0, .bool a0_1] 28 (0, 0))) := ⟨by rw [← hq_]; exact (by (with_reducible repeat (first | refine blk_drewN ?_ _ | refine blk_drew ?_ | refine blk_alloc ?_ _)); exact BK134.out)⟩; have n3_ : Aside0 (Below w.heap.size w wr) := ⟨by rw [← hq_]; exact (by repeat (first | (with_reducible first | exact HB.out | apply below_alloc | apply pw_below_drewN | apply below_drew1 | refine below_set ?_ GE134.out) | exact HB.out))⟩; clear HO_7 HO_8 BK134 HB hq_; have HO_7 := n0_; have HO_8 := n1_; have BK134 := n2_; have HB := n3_; clear n0_ n1_ n2_ n3_)); have p156 : 0 ≤ ((rd x8_2 x9_1) : Int) := of_decide_eq_true (by first | (with_reducible assumption) | assumption); have q156 : (rd x8_2 x9_1) < (x7_2.length : Int) := of_decide_eq_true (by first | (with_reducible assumption) | assumption); obtain ⟨ad156, e156, hx156_0⟩ := Kd.at_bool (Kd.R_reads' HO_7.out).2.2 (rd x8_2 x9_1) p156 q156; (try rw [← Nbq58.out] at hx156_0); obtain rfl : (⟨go9, 0, none⟩ : Addr) = ad156 := (by injection e156); (first | simp only [add_plain] at hx156_0 | simp only [add_at] at hx156_0 | simp only [Addr.add, Nat.zero_add] at hx156_0 | skip); replace p156 := eq_true p156; replace q156 := eq_true q156; have p61 : 0 ≤ ((rd x8_2 x9_1) : Int) := of_decide_eq_true (by first | (with_reducible assumption) | assumption); have q61 : ((rd x8_2 x9_1) : Int) < ((x7_2.length : Int) : Int) := of_decide_eq_true (by first | (with_reducible assumption) | assumption); obtain ⟨hx61_0, hf61_0⟩ := Kd.R_celln false HO_7.out ((rd x8_2 x9_1) : Int) p61 q61; replace p61 := eq_true p61; replace q61 := eq_true q61; obtain ⟨hy64_, hz64_⟩ := Kd.R_celln false HO_7.out ((rd x8_2 x9_1) : Int) (of_decide_eq_true (by first | (with_reducible assumption) | assumption)) (of_decide_eq_true (by first | (with_reducible assumption) | assumption)); have HP64 := Kd.R_putg HO_7.out ((rd x8_2 x9_1) : Int) true) | ((with_reducible refine gate_store (t := 4) (p := 62) rfl ?_); refine store_event (t := 4) (p := 62) (v := ?vo_w65) (w1 := (wr.setCell ⟨go9, ((rd x8_2 x9_1) : Int).toNat, none⟩ (.bool true))) ?hg ?ho ?hn ?hr ?_; (case ho => rfl); (case hg => rfl); (case hn => rfl); (case hr => first | (go_simp; done) | (go_simp; rfl)); intro w65 hw; have hg : wr.grownBy w65 (some go9) := (by rw [hw]; exact HP64.2); have hp_ : Kd.R Kd.bool 4 w65 w.heap.size (fun _ => True) (.slice (some ⟨go9, 0, none⟩) x7_2.length co9) y157 := (by rw [hw, Ny157.out]; exact HP64.1); clear HP64; have n0_ := Aside0.mk (hp_); have n1_ := Aside0.mk (Kd.R_over' (v := (.slice (some ⟨go9, 0, none⟩) x7_2.length co9)) (by (with_reducible repeat (first | apply Kd.R_alloc | apply Kd.R_drewN | apply Kd.R_drew)); exact HO_8.out) (Kd.R_typed HO_7.out) (by decide) hg); have n2_ := Aside0.mk (blk_grown (g := gb134) (o := .cells #[.slice (some ad142) l0_0.length c0_0, .bool a0_1] 28 (0, 0)) (by (with_reducible repeat (first | refine blk_drewN ?_ _ | refine blk_drew ?_ | refine blk_alloc ?_ _)); exact BK134.out) hg (Kd.R_ne HO_7.out BK134.out (by decide))); have n3_ := Aside0.mk ((by rw [hw]; exact below_set (HB.out) GB9.out : Below w.heap.size w w65)); clear HO_7; clear HO_8; clear BK134; clear HB; have HO_7 := n0_; have HO_8 := n1_; have BK134 := n2_; have HB := n3_; clear n0_ n1_ n2_ n3_; clear hg hw hp_) | ((with_reducible refine gate_builtin (b := .append) (xs := #[.tmp 63, .tmp 65]) rfl ?_); at_builtin; refine Kd.R_append (Kd.int .i64) (w0 := w) w.heap.size rfl (.tmp 63) (.tmp 65) 22 3 (.int .i64 0) 8 rfl Try.underlying22 info3 rfl (by decide) (by omega) (.slice (some ad143) x8_2.length co63) x8_2 (rd x8_2 x9_1) [.int .i64 (rd x8_2 x9_1)] (fun _ => True) (fun _ => False) rfl rfl ?aP (fun _ hk => hk.elim) ?aF ?aO ?aB ?aS ?aL ?_; (case aP => exact rfl); (case aB => exact (by repeat (first | (with_reducible first | exact HB.out | apply below_alloc | apply pw_below_drewN | apply below_drew1 | refine below_set ?_ GE134.out) | exact HB.out))); (case aF => exact (fun _ _ => trivial)); (case aO => exact (by (with_reducible repeat (first | apply Kd.R_alloc | apply Kd.R_drewN | apply Kd.R_drew)); exact HO_8.out)); (case aS => exact (below_size (by repeat (first | (with_reducible first | exact HB.out | apply below_alloc | apply pw_below_drewN | apply below_drew1 | refine below_set ?_ GE134.out) | exact HB.out)))); (case aL => have := LMc62.out; omega); intro v159 w66 ho hb hg hat; rw [← Ny158.out] at ho; have n0_ := Aside0.mk (Kd.R_over' (by (with_reducible repeat (first | apply Kd.R_alloc | apply Kd.R_drewN | apply Kd.R_drew)); exact HO_7.out) (Kd.R_typed (by (with_reducible repeat (first | apply Kd.R_alloc | apply Kd.R_drewN | apply Kd.R_drew)); exact HO_8.out)) (by decide) hg); have n1_ := Aside0.mk (blk_grown (g := gb134) (o := .cells #[.slice (some ad142) l0_0.length c0_0, .bool a0_1] 28 (0, 0)) (by (with_reducible repeat (first | refine blk_drewN ?_ _ | refine blk_drew ?_ | refine blk_alloc ?_ _)); exact BK134.out) hg (Kd.R_ne HO_8.out BK134.out (by decide))); have n2_ := Aside0.mk (hb); have n3_ := Aside0.mk (ho); clear HO_7; clear BK134; clear HB; clear HO_8; have HO_7 := n0_; have BK134 := n1_; have HB := n2_; have HO160 := n3_; clear n0_ n1_ n2_ n3_; clear ho hb hg hat))
                                          (try simp only [← hl7_2])
                                          go_roundg k2
                                          case measure => have := HK1.out; have := HK2.out; omega
                                          case rel => exact ⟨(y157), (y158), (wrap64 (x35_2 + 1)), (by first | rfl | (simp; done) | (simp [*]; done)), H', ⟨by have := HK1.out; have := HK2.out; omega⟩, ⟨by (try simp only [hl7_1]); (try simp only [hl7_2]); (with_reducible repeat (first | apply Kd.R_alloc | apply Kd.R_drewN | apply Kd.R_drew)); exact HO_7.out⟩, ⟨by (try simp only [hl7_1]); (try simp only [hl7_2]); (with_reducible repeat (first | apply Kd.R_alloc | apply Kd.R_drewN | apply Kd.R_drew)); exact HO160.out⟩, ⟨by (try simp only [hl7_1]); (try simp only [hl7_2]); (with_reducible repeat (first | refine blk_drewN ?_ _ | refine blk_drew ?_ | refine blk_alloc ?_ _)); exact BK134.out⟩, ⟨by repeat (first | (with_reducible first | exact HB.out | apply below_alloc | apply pw_below_drewN | apply below_drew1 | refine below_set ?_ GE134.out) | exact HB.out)⟩⟩
                                        · rw [if_neg c62] at H
                                          exact absurd H (by simp)
                                    · rw [if_neg c57] at H
                                      exact absurd H (by simp)
                                  · rw [if_neg c56] at H
                                    exact absurd H (by simp)
                            · rw [if_neg c25] at H
                              exact absurd H (by simp)
                          · rw [if_neg c24] at H
                            exact absurd H (by simp)
                        · rw [if_neg c23] at H
                          exact absurd H (by simp)
                      · rw [if_neg c22] at H
                        exact absurd H (by simp)
                    · rw [if_neg c21] at H
                      have c21b0 : decide (x35_2 < (l0_0.length : Int)) = false := decide_eq_false c21
                      (try (have c21b0h := c21b0; simp only [hl7_1, hl7_2] at c21b0h))
                      clear c21
                      have H' := Aside0.mk H
                      clear H
                      go_wp2
                      (try simp only [← hl7_1, ← hl7_2])
                      go_roundg k2
                      case measure => have := HK1.out; have := HK2.out; omega
                      case rel => exact ⟨(x7_2), (x8_2), (wrap64 (x9_1 + 1)), (by first | rfl | (simp; done) | (simp [*]; done)), H', ⟨by have := HK1.out; have := HK2.out; omega⟩, ⟨by (try simp only [hl7_1]); (try simp only [hl7_2]); (with_reducible repeat (first | apply Kd.R_alloc | apply Kd.R_drewN | apply Kd.R_drew)); exact HO_7.out⟩, ⟨by (try simp only [hl7_1]); (try simp only [hl7_2]); (with_reducible repeat (first | apply Kd.R_alloc | apply Kd.R_drewN | apply Kd.R_drew)); exact HO_8.out⟩, ⟨by (try simp only [hl7_1]); (try simp only [hl7_2]); (with_reducible repeat (first | refine blk_drewN ?_ _ | refine blk_drew ?_ | refine blk_alloc ?_ _)); exact BK134.out⟩, ⟨by repeat (first | (with_reducible first | exact HB.out | apply below_alloc | apply pw_below_drewN | apply below_drew1 | refine below_set ?_ GE134.out) | exact HB.out)⟩⟩
              · rw [if_neg c18] at H
                have c18b0 : decide (x9_1 < (x8_1.length : Int)) = false := decide_eq_false c18
                (try (have c18b0h := c18b0; simp only [hl7_1] at c18b0h))
                clear c18
                have H' := Aside0.mk H
                clear H
                obtain ⟨Ao67, co67, eo67⟩ := Kd.R_slice HO_8.out
                subst eo67
                go_wp2
                go_loopg [13, 70] k1 (fun kq v13 v70 w' => ∃ (x13_2 : List Int) (x70_2 : Int), v70 = .int .i64 x70_2 ∧ Aside0 (spec_liReach.l2 kq x13_2 x7_1 (x7_1.length : Int) x70_2 = some r) ∧ Aside0 (kq ≤ k1) ∧ Aside0 (Kd.R (Kd.int .i64) 3 w' w.heap.size (fun _ => True) v13 x13_2) ∧ Aside0 (Kd.R Kd.bool 4 w' w.heap.size (fun _ => True) (.slice (some ⟨go9, 0, none⟩) x7_1.length co9) x7_1) ∧ Aside0 (w'.heap[gb134]? = some (.cells #[(.slice A0_0 l0_0.length c0_0), .bool a0_1] 28 (0, 0))) ∧ Aside0 (Below w.heap.size w w'))
                case atStart => exact ⟨(([] : List Int)), (0), (by first | rfl | (simp; done) | (simp [*]; done)), H', ⟨Nat.le_refl _⟩, ⟨by (try simp only [hl7_1]); first | exact Kd.R_nil _ _ _ _ _ | exact Kd.N_nil _ _ _ _ _ | exact Kd.V_nil _ _ _ _ _ | exact Kd.Q_nil _ _ _ _ _ | exact Kd.S_nil _ _ _ _ _⟩, ⟨by (try simp only [hl7_1]); (with_reducible repeat (first | apply Kd.R_alloc | apply Kd.R_drewN | apply Kd.R_drew)); exact HO_7.out⟩, ⟨by (try simp only [hl7_1]); (with_reducible repeat (first | refine blk_drewN ?_ _ | refine blk_drew ?_ | refine blk_alloc ?_ _)); exact BK134.out⟩, ⟨by repeat (first | (with_reducible first | exact HB.out | apply below_alloc | apply pw_below_drewN | apply below_drew1 | refine below_set ?_ GE134.out) | exact HB.out)⟩⟩
                case round =>
                  clear H'
                  try clear c1
                  try clear p1
                  try clear q1
                  try clear hx1
                  try clear c2
                  try clear p2
                  try clear c3
                  try clear p3
                  try clear q3
                  try clear hx3
                  try clear hf3
                  try clear c4
                  try clear q4
                  try clear c5
                  try clear c5b0
                  try clear c5b1
                  try clear p5
                  try clear q5
                  try clear hx5
                  try clear hf5
                  try clear c6
                  try clear c6b0
                  try clear c6b1
                  try clear p6
                  try clear q6
                  try clear hx6
                  try clear hf6
                  try clear c7
                  try clear c7b0
                  try clear c8
                  try clear c8b0
                  try clear p9
                  try clear q9
                  try clear hx9
                  try clear hf9
                  try clear p14
                  try clear q14
                  try clear hx14
                  try clear p15
                  try clear q15
                  try clear hx15
                  try clear c18
                  try clear c18b0
                  try clear c21
                  try clear c21b0
                  try clear c22
                  try clear c22b0
                  try clear c23
                  try clear c23b0
                  try clear c24
                  try clear c24b0
                  try clear c25
                  try clear c25b0
                  try clear c26
                  try clear c28
                  try clear c28b0
                  try clear c29
                  try clear c29b0
                  try clear q30
                  try clear c31
                  try clear p35
                  try clear q35
                  try clear hx35
                  try clear hf35
                  try clear c36
                  try clear c44
                  try clear c45
                  try clear c45b0
                  try clear c46
                  try clear c46b0
                  try clear q47
                  try clear c48
                  try clear c50
                  try clear p50
                  try clear q50
                  try clear hx50
                  try clear hf50
                  try clear c51
                  try clear c56
                  try clear c56b0
                  try clear c57
                  try clear c57b0
                  try clear c58
                  try clear q58
                  try clear c59
                  try clear p61
                  try clear q61
                  try clear hx61
                  try clear hf61
                  try clear c62
                  try clear p64
                  try clear hcz11_0
                  try clear hcz11_1
                  try clear hcz20_0
                  try clear hcz20_1
                  try clear hcz33_0
                  try clear hcz33_1
                  try clear hcz38_0
                  try clear hcz38_1
                  try clear hfz11_0
                  try clear hfz11_1
                  try clear hfz20_0
                  try clear hfz20_1
                  try clear hfz33_0
                  try clear hfz33_1
                  try clear hfz38_0
                  try clear hfz38_1
                  try clear hx142_0
                  try clear hx143_0
                  try clear hx145_0
                  try clear hx151_0
                  try clear hx156_0
                  try clear hx35_0
                  try clear hx50_0
                  try clear hx61_0
                  try clear hx9_0
                  try clear p142
                  try clear p143
                  try clear p145
                  try clear p151
                  try clear p156
                  try clear p2
                  try clear p35
                  try clear p50
                  try clear p6
                  try clear p61
                  try clear p9
                  try clear q142
                  try clear q143
                  try clear q145
                  try clear q151
                  try clear q156
                  try clear q35
                  try clear q50
                  try clear q61
                  try clear q9
                  obtain ⟨x13_2, x70_2, rfl, HA, HK2, HO_13, HO_68, BK134, HB⟩ := hrel
                  cases gk with
                  | zero => exact absurd HA.out (by simp [spec_liReach.l2])
                  | succ k2 =>
                    have H := HA.out
                    clear HA
                    simp only [spec_liReach.l2] at H
                    by_cases c68 : x70_2 < (x7_1.length : Int)
                    · rw [if_pos c68] at H
                      have c68b0 : decide (x70_2 < (x7_1.length : Int)) = true := decide_eq_true c68
                      (try (have c68b0h := c68b0; simp only [hl7_1] at c68b0h))
                      clear c68
                      by_cases c69 : 0 ≤ x70_2
                      · rw [if_pos c69] at H
                        have c69b0 : decide (0 ≤ x70_2) = true := decide_eq_true c69
                        clear c69
                        by_cases c70 : x70_2 < (x7_1.length : Int)
                        · rw [if_pos c70] at H
                          have c70b0 : decide (x70_2 < (x7_1.length : Int)) = true := decide_eq_true c70
                          (try (have c70b0h := c70b0; simp only [hl7_1] at c70b0h))
                          clear c70
                          obtain ⟨bq71, hbq71⟩ : ∃ b_ : Bool, b_ = (rdOf false x7_1 x70_2) := ⟨_, rfl⟩
                          replace H : (if bq71 = true then (if x13_2.length < 17592186044416 then (spec_liReach.l2 k2 (x13_2 ++ [x70_2]) x7_1 (x7_1.length : Int) (wrap64 (x70_2 + 1))) else (none)) else (spec_liReach.l2 k2 x13_2 x7_1 (x7_1.length : Int) (wrap64 (x70_2 + 1)))) = some r := by rw [← hbq71] at H; exact H
                          have Nbq71 := Aside0.mk hbq71
                          clear hbq71
                          by_cases c72 : bq71 = true
                          · subst c72
                            have H1 : (if x13_2.length < 17592186044416 then (spec_liReach.l2 k2 (x13_2 ++ [x70_2]) x7_1 (x7_1.length : Int) (wrap64 (x70_2 + 1))) else (none)) = some r := by rw [if_pos rfl] at H; exact H
                            clear H
                            have H := H1
                            clear H1
                            by_cases c73 : x13_2.length < 17592186044416
                            · rw [if_pos c73] at H
                              have LMc73 := Aside0.mk c73
                              clear c73
                              obtain ⟨y162, hy162⟩ : ∃ y_ : List Int, y_ = (x13_2 ++ [x70_2]) := ⟨_, rfl⟩
                              replace H : (spec_liReach.l2 k2 y162 x7_1 (x7_1.length : Int) (wrap64 (x70_2 + 1))) = some r := by first | (rw [hy162]; with_reducible exact H) | (have H2_ := (Option.bind_some _ _).symm.trans H; rw [hy162]; with_reducible exact H2_) | (have H2_ := (Option.bind_some _ _).symm.trans H; with_reducible exact H2_) | with_reducible exact H | (rw [hy162]; exact H) | exact H
                              have Ny162 := Aside0.mk hy162
                              clear hy162
                              have H' := Aside0.mk H
                              clear H
                              have p161 : 0 ≤ (x70_2 : Int) := of_decide_eq_true (by first | (with_reducible assumption) | assumption)
                              have q161 : x70_2 < (x7_1.length : Int) := of_decide_eq_true (by first | (with_reducible assumption) | assumption)
                              obtain ⟨ad161, e161, hx161_0⟩ := Kd.at_bool (Kd.R_reads' HO_68.out).2.2 x70_2 p161 q161
                              (try rw [← Nbq71.out] at hx161_0)
                              obtain rfl : (⟨go9, 0, none⟩ : Addr) = ad161 := (by injection e161)
                              (first | simp only [add_plain] at hx161_0 | simp only [add_at] at hx161_0 | simp only [Addr.add, Nat.zero_add] at hx161_0 | skip)
                              replace p161 := eq_true p161
                              replace q161 := eq_true q161
                              go_wp2_with (first | ((with_reducible refine gate_builtin (b := .append) (xs := #[.tmp 76, .tmp 78]) rfl ?_); at_builtin; refine Kd.R_append (Kd.int .i64) (w0 := w) w.heap.size rfl (.tmp 76) (.tmp 78) 22 3 (.int .i64 0) 8 rfl Try.underlying22 info3 rfl (by decide) (by omega) u13 x13_2 x70_2 [.int .i64 x70_2] (fun _ => True) (fun _ => False) rfl rfl ?aP (fun _ hk => hk.elim) ?aF ?aO ?aB ?aS ?aL ?_; (case aP => exact rfl); (case aB => exact (by repeat (first | (with_reducible first | exact HB.out | apply below_alloc | apply pw_below_drewN | apply below_drew1 | refine below_set ?_ GE134.out) | exact HB.out))); (case aF => exact (fun _ _ => trivial)); (case aO => exact (by (with_reducible repeat (first | apply Kd.R_alloc | apply Kd.R_drewN | apply Kd.R_drew)); exact HO_13.out)); (case aS => exact (below_size (by repeat (first | (with_reducible first | exact HB.out | apply below_alloc | apply pw_below_drewN | apply below_drew1 | refine below_set ?_ GE134.out) | exact HB.out)))); (case aL => have := LMc73.out; omega); intro v163 w74 ho hb hg hat; rw [← Ny162.out] at ho; have n0_ := Aside0.mk (Kd.R_over' (by (with_reducible repeat (first | apply Kd.R_alloc | apply Kd.R_drewN | apply Kd.R_drew)); exact HO_68.out) (Kd.R_typed (by (with_reducible repeat (first | apply Kd.R_alloc | apply Kd.R_drewN | apply Kd.R_drew)); exact HO_13.out)) (by decide) hg); have n1_ := Aside0.mk (blk_grown (g := gb134) (o := .cells #[.slice A0_0 l0_0.length c0_0, .bool a0_1] 28 (0, 0)) (by (with_reducible repeat (first | refine blk_drewN ?_ _ | refine blk_drew ?_ | refine blk_alloc ?_ _)); exact BK134.out) hg (Kd.R_ne HO_13.out BK134.out (by decide))); have n2_ := Aside0.mk (hb); have n3_ := Aside0.mk (ho); clear HO_68; clear BK134; clear HB; clear HO_13; have HO_68 := n0_; have BK134 := n1_; have HB := n2_; have HO164 := n3_; clear n0_ n1_ n2_ n3_; clear ho hb hg hat))
                              go_roundg k2
                              case measure => have := HK1.out; have := HK2.out; omega
                              case rel => exact ⟨(y162), (wrap64 (x70_2 + 1)), (by first | rfl | (simp; done) | (simp [*]; done)), H', ⟨by have := HK1.out; have := HK2.out; omega⟩, ⟨by (try simp only [hl7_1]); (with_reducible repeat (first | apply Kd.R_alloc | apply Kd.R_drewN | apply Kd.R_drew)); exact HO164.out⟩, ⟨by (try simp only [hl7_1]); (with_reducible repeat (first | apply Kd.R_alloc | apply Kd.R_drewN | apply Kd.R_drew)); exact HO_68.out⟩, ⟨by (try simp only [hl7_1]); (with_reducible repeat (first | refine blk_drewN ?_ _ | refine blk_drew ?_ | refine blk_alloc ?_ _)); exact BK134.out⟩, ⟨by repeat (first | (with_reducible first | exact HB.out | apply below_alloc | apply pw_below_drewN | apply below_drew1 | refine below_set ?_ GE134.out) | exact HB.out)⟩⟩
                            · rw [if_neg c73] at H
                              exact absurd H (by simp)
                          · replace c72 := Bool.eq_false_iff.mpr c72
                            subst c72
                            have H1 : (spec_liReach.l2 k2 x13_2 x7_1 (x7_1.length : Int) (wrap64 (x70_2 + 1))) = some r := by rw [if_neg (show ¬ (false = true) by decide)] at H; exact H
                            clear H
                            have H := H1
                            clear H1
                            have H' := Aside0.mk H
                            clear H
                            have p161 : 0 ≤ (x70_2 : Int) := of_decide_eq_true (by first | (with_reducible assumption) | assumption)
                            have q161 : x70_2 < (x7_1.length : Int) := of_decide_eq_true (by first | (with_reducible assumption) | assumption)
                            obtain ⟨ad161, e161, hx161_0⟩ := Kd.at_bool (Kd.R_reads' HO_68.out).2.2 x70_2 p161 q161
                            (try rw [← Nbq71.out] at hx161_0)
                            obtain rfl : (⟨go9, 0, none⟩ : Addr) = ad161 := (by injection e161)
                            (first | simp only [add_plain] at hx161_0 | simp only [add_at] at hx161_0 | simp only [Addr.add, Nat.zero_add] at hx161_0 | skip)
                            replace p161 := eq_true p161
                            replace q161 := eq_true q161
                            go_wp2
                            go_roundg k2
                            case measure => have := HK1.out; have := HK2.out; omega
                            case rel => exact ⟨(x13_2), (wrap64 (x70_2 + 1)), (by first | rfl | (simp; done) | (simp [*]; done)), H', ⟨by have := HK1.out; have := HK2.out; omega⟩, ⟨by (try simp only [hl7_1]); (with_reducible repeat (first | apply Kd.R_alloc | apply Kd.R_drewN | apply Kd.R_drew)); exact HO_13.out⟩, ⟨by (try simp only [hl7_1]); (with_reducible repeat (first | apply Kd.R_alloc | apply Kd.R_drewN | apply Kd.R_drew)); exact HO_68.out⟩, ⟨by (try simp only [hl7_1]); (with_reducible repeat (first | refine blk_drewN ?_ _ | refine blk_drew ?_ | refine blk_alloc ?_ _)); exact BK134.out⟩, ⟨by repeat (first | (with_reducible first | exact HB.out | apply below_alloc | apply pw_below_drewN | apply below_drew1 | refine below_set ?_ GE134.out) | exact HB.out)⟩⟩
                        · rw [if_neg c70] at H
                          exact absurd H (by simp)
                      · rw [if_neg c69] at H
                        exact absurd H (by simp)
                    · rw [if_neg c68] at H
                      have c68b0 : decide (x70_2 < (x7_1.length : Int)) = false := decide_eq_false c68
                      (try (have c68b0h := c68b0; simp only [hl7_1] at c68b0h))
                      clear c68
                      obtain rfl := Option.some.inj H
                      go_wp2
                      go_ret
                      exact ⟨_, by first | rfl | (simp [errW_none, errW_some] <;> rfl) | (simp only [← hji4]; first | rfl | (simp [errW_none, errW_some] <;> rfl)) | (simp [*, errW_none, errW_some] <;> rfl), by (with_reducible repeat (first | apply Kd.R_alloc | apply Kd.R_drewN | apply Kd.R_drew)); exact HO_13.out, by repeat (first | (with_reducible first | exact HB.out | apply below_alloc | apply pw_below_drewN | apply below_drew1 | refine below_set ?_ GE134.out) | exact HB.out)⟩
        · rw [if_neg c8] at H
          exact absurd H (by simp)
      · rw [if_neg c7] at H
        exact absurd H (by simp)
    · rw [if_neg c6] at H
      exact absurd H (by simp)
  · rw [if_neg c5] at H
    exact absurd H (by simp)

end Go.Proofs.Ytcdphbpbfmjheaa.PFnExactCountOrbits
