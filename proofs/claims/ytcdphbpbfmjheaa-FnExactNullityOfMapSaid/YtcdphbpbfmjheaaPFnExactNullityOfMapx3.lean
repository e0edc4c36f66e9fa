-- Written by a program of this session (wip/tools/mp.py) around the kit's printer; Lean checks it.
import Derived.Test.YtcdphbpbfmjheaaPFnExactNullityOfMapx0
namespace Go.Proofs.Ytcdphbpbfmjheaa.PFnExactNullityOfMap
open Go.RowKit Go.Proofs.YtcdphbpbfmjheaaW.PrintWords Go.Proofs.YtcdphbpbfmjheaaW.PrintLast Go.Proofs.YtcdphbpbfmjheaaW.PrintMore
attribute [local go_sem] max2_int min2_int max_two min_two max_three min_three max_four min_four   -- for this text's walks alone
set_option linter.unusedVariables false
set_option linter.unusedSimpArgs false

/-! ### slices_IndexFunc_int_int: function 132 -/
-- MANUAL
/-- What a function value that is handed on gives: at every whole number, in every later world. -/
def PredI (g : Nat) (lb : Array Value) (p : Int → Bool) (w : World) : Prop :=
  ∀ (W : World) (x : Int), Below w.heap.size w W → Calls Try.prog g (#[.int .i64 x] ++ lb) W fun e w' => e = .returned (.bool (p x)) ∧ Drawn0 W w'
theorem PredI.drawn {g : Nat} {lb : Array Value} {p : Int → Bool} {w : World} (h : PredI g lb p w) (x : Int) (m : Nat) :
    Calls Try.prog g (#[.int .i64 x] ++ lb) (w.drewN m) fun e w' => e = .returned (.bool (p x)) ∧ ∃ q, w' = (w.drewN m).drewN q :=
  (h _ x (Drawn0.below ⟨⟨m, rfl⟩⟩)).mono fun _ _ ⟨he, hd⟩ => ⟨he, hd.out⟩
def firstAt (p : Int → Bool) : List Int → Int → Int
  | [], _ => -1
  | x :: r, i => if p x then i else firstAt p r (i + 1)
theorem firstAt_drop (p : Int → Bool) (l : List Int) (i : Nat) (h : i < l.length) : firstAt p (l.drop i) i = if p (l.getD i 0) then (i : Int) else firstAt p (l.drop (i + 1)) (i + 1 : Nat) := by
  rw [List.drop_eq_getElem_cons h, firstAt]
  simp only [List.getD_eq_getElem?_getD, List.getElem?_eq_getElem h, Option.getD_some]
  rfl
theorem firstAt_any (p : Int → Bool) : ∀ (l : List Int) (i : Int), 0 ≤ i → decide (0 ≤ firstAt p l i) = l.any p
  | [], i, _ => by simp [firstAt]
  | x :: r, i, h => by
    unfold firstAt
    by_cases hx : p x = true
    · simp [hx, h]
    · have := firstAt_any p r (i + 1) (by omega)
      simp [hx, this]
set_option maxHeartbeats 1000000 in
theorem slices_IndexFunc.calls (g : Nat) (lb : Array Value) (p : Int → Bool) (eg : ∀ args w, (callFunc g args).run Try.prog w = .ok (.enter g args) w) (A0 : Option Addr) (c0 : Nat) (l0 : List Int) (w : World) (hp : PredI g lb p w)
    (hr0 : Kd.C (Kd.int .i64) w A0 l0.length l0) :
    Calls Try.prog 132 #[.slice A0 l0.length c0, .func (.func g) #[] lb] w fun e w' => e = .returned (.int .i64 (firstAt p l0 0)) ∧ Drawn0 w w' := by
  have hm := Kd.C_max hr0
  have HR0 := Aside0.mk hr0
  clear hr0
  have HP := Aside0.mk hp
  clear hp
  go_enter Try.func132, Try.ntmps132
  go_wp2
  go_loopg [5, 8] l0.length (fun gg _ s8 wr => ∃ kk m : Nat, s8 = .int .i64 kk ∧ wr = w.drewN m ∧ Aside0 (kk ≤ l0.length ∧ l0.length - kk ≤ gg ∧ firstAt p l0 0 = firstAt p (l0.drop kk) kk))
  case atStart => exact ⟨0, 0, rfl, rfl, ⟨by omega, by omega, rfl⟩⟩
  case round =>
    obtain ⟨kk, m, rfl, rfl, HA⟩ := hrel
    by_cases hlt : kk < l0.length
    · have hlti : (kk : Int) < (l0.length : Int) := by omega
      have hk0 : (0 : Int) ≤ (kk : Int) := by omega
      obtain ⟨ad, e1, hx⟩ := Kd.at_int HR0.out (kk : Int) hk0 hlti
      subst e1
      have hx2 : w.cell? (ad.add kk) = some (.int .i64 (l0.getD kk 0)) := by simpa [rd] using hx
      clear hx
      generalize hy : l0.getD kk 0 = y at hx2
      have HY := Aside0.mk hy
      clear hy
      have hcall := HP.out.drawn y m
      have hf := Aside0.mk (firstAt_drop p l0 kk hlt)
      cases hq : p y with
      | true =>
        rw [hq] at hcall
        have HQ := Aside0.mk hq
        clear hq
        go_wp2_with fail
        refine hcall.mono ?_
        rintro e w' ⟨rfl, q, rfl⟩
        clear hcall
        go_wp2
        go_ret
        refine ⟨?_, ⟨m + q, by simp [World.drewN_drewN]⟩⟩
        have := HA.out.2.2
        rw [this, hf.out, HY.out, HQ.out]
        rfl
      | false =>
        rw [hq] at hcall
        have HQ := Aside0.mk hq
        clear hq
        go_wp2_with fail
        refine hcall.mono ?_
        rintro e w' ⟨rfl, q, rfl⟩
        clear hcall
        go_wp2
        go_roundg (l0.length - kk - 1)
        case measure => have := HA.out.2.1; omega
        case rel =>
          refine ⟨kk + 1, m + q, by go_num, by simp [World.drewN_drewN], ⟨by omega, by have := HA.out.2.1; omega, ?_⟩⟩
          rw [HA.out.2.2, hf.out, HY.out, HQ.out]
          rfl
    · have hge : (l0.length : Int) ≤ (kk : Int) := by omega
      go_wp2
      go_ret
      refine ⟨?_, ⟨m, rfl⟩⟩
      rw [HA.out.2.2, List.drop_eq_nil_of_le (by omega)]
      rfl

/-! ### slices_ContainsFunc_int_int: function 93 -/
-- MANUAL
set_option maxHeartbeats 1000000 in
theorem slices_ContainsFunc.calls (g : Nat) (lb : Array Value) (p : Int → Bool) (eg : ∀ args w, (callFunc g args).run Try.prog w = .ok (.enter g args) w) (A0 : Option Addr) (c0 : Nat) (l0 : List Int) (w : World) (hp : PredI g lb p w)
    (hr0 : Kd.C (Kd.int .i64) w A0 l0.length l0) :
    Calls Try.prog 93 #[.slice A0 l0.length c0, .func (.func g) #[] lb] w fun e w' => e = .returned (.bool (l0.any p)) ∧ Drawn0 w w' := by
  have hc := slices_IndexFunc.calls g lb p eg A0 c0 l0 w hp hr0
  rw [← firstAt_any p l0 0 (by omega)]
  clear hp hr0
  go_enter Try.func93, Try.ntmps93
  go_wp2_with (go_at_call 132; refine hc.mono ?_; rintro e w' ⟨rfl, ⟨⟨q, rfl⟩⟩⟩)
  go_ret
  exact ⟨rfl, ⟨q, rfl⟩⟩

end Go.Proofs.Ytcdphbpbfmjheaa.PFnExactNullityOfMap
