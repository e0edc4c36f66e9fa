-- Written by a program of this session (wip/tools/mp.py) around the kit's printer; Lean checks it.
import Derived.Test.YtcdphbpbfmjheaaPFnExactNullityOfMapx0
import Derived.Test.YtcdphbpbfmjheaaPFnExactNullityOfMapx3
import Derived.Test.YtcdphbpbfmjheaaPFnExactNullityOfMapx4
import Derived.Shelf.Abstract
namespace Go.Proofs.Ytcdphbpbfmjheaa.PFnExactNullityOfMap
open Go.RowKit Go.Proofs.YtcdphbpbfmjheaaW.PrintWords Go.Proofs.YtcdphbpbfmjheaaW.PrintLast Go.Proofs.YtcdphbpbfmjheaaW.PrintMore
attribute [local go_sem] max2_int min2_int max_two min_two max_three min_three max_four min_four   -- for this text's walks alone
set_option linter.unusedVariables false
set_option linter.unusedSimpArgs false

/-! ### impl_isMap: function 64 -/
-- MANUAL
/-- No set of so many numbers. -/
def impl_isMap.p (n : Nat) (s : Int) : Bool := !((impl_in.f s 0 (wrap64 (shl .i64 1 (n : Int) - 1))).getD false)
def impl_isMap.one (m : List Int) : Bool := (impl_isCount.f (m.length : Int)).getD false && !(m.any (impl_isMap.p m.length))
def impl_isMap.f (l0 : List (List Int)) : Option (Bool) := some (l0.all impl_isMap.one)
theorem impl_isMap.in_some (x u : Int) : impl_in.f x 0 u = some ((impl_in.f x 0 u).getD false) := by
  unfold impl_in.f
  split <;> rfl
theorem impl_isMap.count_some (x : Int) : impl_isCount.f x = some ((impl_isCount.f x).getD false) := by
  unfold impl_isCount.f impl_in.f
  split <;> rfl
theorem impl_isMap.at_ {w : World} {A : Option Addr} {n : Nat} {xs : List (List Int)} (h : Kd.C (Kd.slice 3 (Kd.int .i64)) w A n xs) (i : Nat) (h1 : i < n) : ∃ ad A0 c0, A = some ad ∧ w.cell? (ad.add i) = some (.slice A0 (xs.getD i []).length c0) ∧ (xs.getD i []).length ≤ c0 ∧ (Kd.int .i64).C w A0 (xs.getD i []).length (xs.getD i []) := by
  obtain ⟨ad, c, e, _, hK, hc0⟩ := Kd.C_get h ([] : List Int) (i : Int) (by omega) (by omega)
  have hc : ∀ j u, c[j]? = some u → w.cell? (ad.add (i * 1 + j)) = some u := hc0
  obtain ⟨A0, c0, rfl, l0, g0⟩ := hK
  exact ⟨ad, A0, c0, e, by have hq := hc 0 _ rfl; rw [Nat.mul_one, Nat.add_zero] at hq; exact hq, l0, g0⟩
set_option maxHeartbeats 1000000 in
theorem impl_isMap.lit (B n c : Nat) (A : Option Addr) (x : Int) (W : World) (hc : W.cell? ⟨B, 0, none⟩ = some (.slice A n c)) :
    Calls Try.prog 107 #[.int .i64 x, .pointer (some ⟨B, 0, none⟩)] W fun e w' => e = .returned (.bool (impl_isMap.p n x)) ∧ Drawn0 W w' := by
  have h1 : impl_whole.f (n : Int) = some (wrap64 (shl .i64 1 (n : Int) - 1)) := by unfold impl_whole.f; rw [if_pos (by omega)]
  have h2 := impl_isMap.in_some x (wrap64 (shl .i64 1 (n : Int) - 1))
  unfold impl_isMap.p
  generalize wrap64 (shl .i64 1 (n : Int) - 1) = u at h1 h2 ⊢
  generalize (impl_in.f x 0 u).getD false = b at h2 ⊢
  have hw := fun w => impl_whole.calls (n : Int) u w h1
  have hi := fun w => impl_in.calls x 0 u b w h2
  clear h1 h2
  go_enter Try.func107, Try.ntmps107
  go_wp2_with (first | (go_at_call 108; refine (hw _).mono ?_; rintro e w' ⟨rfl, ⟨⟨q, rfl⟩⟩⟩) | (go_at_call 95; refine (hi _).mono ?_; rintro e w' ⟨rfl, ⟨⟨q, rfl⟩⟩⟩))
  go_ret
  exact ⟨rfl, by repeat (first | exact Drawn0.refl _ | apply Drawn0.step)⟩
theorem impl_isMap.drop_ (l : List (List Int)) (i : Nat) (h : i < l.length) : (l.drop i).all impl_isMap.one = (impl_isMap.one (l.getD i []) && (l.drop (i + 1)).all impl_isMap.one) := by
  rw [List.drop_eq_getElem_cons h, List.all_cons]
  simp only [List.getD_eq_getElem?_getD, List.getElem?_eq_getElem h, Option.getD_some]
set_option maxHeartbeats 2000000 in
theorem impl_isMap.calls (A0 : Option Addr) (c0 : Nat) (l0 : List (List Int)) (r : Bool) (w : World) (hr0 : Kd.C (Kd.slice 3 (Kd.int .i64)) w A0 l0.length l0) (hc0 : l0.length ≤ c0) (h : impl_isMap.f l0 = some r) :
    Calls Try.prog 64 #[.slice A0 l0.length c0] w fun e w' => e = .returned (.bool r) ∧ Below w.heap.size w w' := by
  obtain rfl := Option.some.inj h
  clear h
  have hm := Kd.C_max hr0
  have HR0 := Aside0.mk hr0
  clear hr0 hc0
  go_enter Try.func64, Try.ntmps64
  go_wp2
  go_loopg [4, 7] l0.length (fun gg _ s7 wr => ∃ kk : Nat, s7 = .int .i64 kk ∧ Aside0 (Below w.heap.size w wr) ∧ Aside0 (kk ≤ l0.length ∧ l0.length - kk ≤ gg ∧ l0.all impl_isMap.one = (l0.drop kk).all impl_isMap.one))
  case atStart => exact ⟨0, rfl, ⟨Below.refl _ _⟩, ⟨by omega, by omega, rfl⟩⟩
  case round =>
    obtain ⟨kk, rfl, HB, HA⟩ := hrel
    by_cases hlt : kk < l0.length
    · have hlti : (kk : Int) < (l0.length : Int) := by omega
      obtain ⟨ad, A1, c1, e1, hx, _, hr1⟩ := impl_isMap.at_ (Kd.C_below HR0.out HB.out) kk hlt
      subst e1
      have hf := Aside0.mk (impl_isMap.drop_ l0 kk hlt)
      generalize l0.getD kk [] = m at hx hr1 hf
      have HR1 := Aside0.mk hr1
      clear hr1
      have h1 := impl_isMap.count_some (m.length : Int)
      have HO := Aside0.mk (show impl_isMap.one m = ((impl_isCount.f (m.length : Int)).getD false && !(m.any (impl_isMap.p m.length))) from rfl)
      generalize (impl_isCount.f (m.length : Int)).getD false = t at h1 HO
      have hcount := fun w => impl_isCount.calls (m.length : Int) t w h1
      clear h1
      have HC := Aside0.mk (fun (B : Nat) (W : World) (hc : W.cell? ⟨B, 0, none⟩ = some (.slice A1 m.length c1)) (hb : B < W.heap.size) (hr : Kd.C (Kd.int .i64) W A1 m.length m) => slices_ContainsFunc.calls 107 #[.pointer (some ⟨B, 0, none⟩)] (impl_isMap.p m.length) (Go.Proofs.enters_of Try.func107 (by kernel_rfl) rfl) A1 c1 m W (fun W' x hW => impl_isMap.lit _ _ _ _ x W' ((hW.cell (p := ⟨B, 0, none⟩) hb).trans hc)) hr)
      generalize m.any (impl_isMap.p m.length) = b at HO HC
      cases t with
      | false =>
        clear HC
        go_wp2_with (go_at_call 106; refine (hcount _).mono ?_; rintro e w' ⟨rfl, ⟨⟨q, rfl⟩⟩⟩)
        go_ret
        refine ⟨by rw [HA.out.2.2, hf.out, HO.out]; rfl, ?_⟩
        repeat (first | exact HB.out | apply pw_below_drewN | apply below_alloc)
      | true =>
        cases b with
        | true =>
          go_wp2_with (first | (go_at_call 106; refine (hcount _).mono ?_; rintro e w' ⟨rfl, ⟨⟨q, rfl⟩⟩⟩) | (go_at_call 93; refine (HC.out _ _ (by simp) (by simp) (Kd.C_drewN (Kd.C_alloc HR1.out _) _)).mono ?_; rintro e w' ⟨rfl, ⟨⟨q2, rfl⟩⟩⟩))
          go_ret
          refine ⟨by rw [HA.out.2.2, hf.out, HO.out]; rfl, ?_⟩
          repeat (first | exact HB.out | apply pw_below_drewN | apply below_alloc)
        | false =>
          go_wp2_with (first | (go_at_call 106; refine (hcount _).mono ?_; rintro e w' ⟨rfl, ⟨⟨q, rfl⟩⟩⟩) | (go_at_call 93; refine (HC.out _ _ (by simp) (by simp) (Kd.C_drewN (Kd.C_alloc HR1.out _) _)).mono ?_; rintro e w' ⟨rfl, ⟨⟨q2, rfl⟩⟩⟩))
          go_roundg (l0.length - kk - 1)
          case measure => have := HA.out.2.1; omega
          case rel =>
            refine ⟨kk + 1, by go_num, ⟨by repeat (first | exact HB.out | apply pw_below_drewN | apply below_alloc)⟩, ⟨by omega, by have := HA.out.2.1; omega, ?_⟩⟩
            rw [HA.out.2.2, hf.out, HO.out]
            rfl
    · have hge : (l0.length : Int) ≤ (kk : Int) := by omega
      go_wp2
      go_ret
      refine ⟨?_, HB.out⟩
      rw [HA.out.2.2, List.drop_eq_nil_of_le (by omega)]
      rfl

end Go.Proofs.Ytcdphbpbfmjheaa.PFnExactNullityOfMap
