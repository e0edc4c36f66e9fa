-- Written by a program of this session (wip/tools/mp.py) around the kit's printer; Lean checks it.
import Derived.Test.YtlohlngmagpepaaPFnCutsAndEvenEdgesx0
import Derived.Test.YtlohlngmagpepaaPFnCutsAndEvenEdgesx1
import Derived.Shelf.Abstract
namespace Go.Proofs.Ytlohlngmagpepaa.PFnCutsAndEvenEdges
open Go.RowKit Go.Proofs.YtlohlngmagpepaaW.PrintWords Go.Proofs.YtlohlngmagpepaaW.PrintLast Go.Proofs.YtlohlngmagpepaaW.PrintMore
attribute [local go_sem] max2_int min2_int max_two min_two max_three min_three max_four min_four   -- for this text's walks alone
set_option linter.unusedVariables false
set_option linter.unusedSimpArgs false
-- MANUAL
def PredI (g : Nat) (lb : Array Value) (p : Int → Bool) (w : World) : Prop :=
  ∀ (W : World) (x : Int), Below w.heap.size w W → Calls Try.prog g (#[.int .i64 x] ++ lb) W fun e w' => e = .returned (.bool (p x)) ∧ Drawn0 W w'
theorem PredI.drawn {g : Nat} {lb : Array Value} {p : Int → Bool} {w : World} (h : PredI g lb p w) (x : Int) (m : Nat) :
    Calls Try.prog g (#[.int .i64 x] ++ lb) (w.drewN m) fun e w' => e = .returned (.bool (p x)) ∧ ∃ q, w' = (w.drewN m).drewN q :=
  (h _ x (Drawn0.below ⟨⟨m, rfl⟩⟩)).mono fun _ _ ⟨he, hd⟩ => ⟨he, hd.out⟩
def firstAt (p : Int → Bool) : List Int → Int → Int
  | [], _ => -1
  | x :: r, i => if p x then i else firstAt p r (i + 1)
theorem firstAt_drop (p : Int → Bool) (l : List Int) (i : Nat) (h : i < l.length) : firstAt p (l.drop i) i = if p (l.getD i 0) then (i : Int) else firstAt p (l.drop (i + 1)) (i + 1 : Nat) := by
  rw [List.drop_eq_getElem_cons h, firstAt]
  simp only [List.getD_eq_getElem?_getD, List.getElem?_eq_getElem h, Option.getD_some]
  rfl
theorem firstAt_any (p : Int → Bool) : ∀ (l : List Int) (i : Int), 0 ≤ i → decide (0 ≤ firstAt p l i) = l.any p
  | [], i, _ => by simp [firstAt]
  | x :: r, i, h => by
    unfold firstAt
    by_cases hx : p x = true
    · simp [hx, h]
    · have := firstAt_any p r (i + 1) (by omega)
      simp [hx, this]
set_option maxHeartbeats 1000000 in
theorem slices_IndexFunc.calls (g : Nat) (lb : Array Value) (p : Int → Bool) (eg : ∀ args w, (callFunc g args).run Try.prog w = .ok (.enter g args) w) (A0 : Option Addr) (c0 : Nat) (l0 : List Int) (w : World) (hp : PredI g lb p w)
    (hr0 : Kd.C (Kd.int .i64) w A0 l0.length l0) :
    Calls Try.prog 64 #[.slice A0 l0.length c0, .func (.func g) #[] lb] w fun e w' => e = .returned (.int .i64 (firstAt p l0 0)) ∧ Drawn0 w w' := by
  have hm := Kd.C_max hr0
  have HR0 := Aside0.mk hr0
  clear hr0
  have HP := Aside0.mk hp
  clear hp
  go_enter Try.func64, Try.ntmps64
  go_wp2
  go_loopg [5, 8] l0.length (fun gg _ s8 wr => ∃ kk m : Nat, s8 = .int .i64 kk ∧ wr = w.drewN m ∧ Aside0 (kk ≤ l0.length ∧ l0.length - kk ≤ gg ∧ firstAt p l0 0 = firstAt p (l0.drop kk) kk))
  case atStart => exact ⟨0, 0, rfl, rfl, ⟨by omega, by omega, rfl⟩⟩
  case round =>
    obtain ⟨kk, m, rfl, rfl, HA⟩ := hrel
    by_cases hlt : kk < l0.length
    · have hlti : (kk : Int) < (l0.length : Int) := by omega
      have hk0 : (0 : Int) ≤ (kk : Int) := by omega
      obtain ⟨ad, e1, hx⟩ := Kd.at_int HR0.out (kk : Int) hk0 hlti
      subst e1
      have hx2 : w.cell? (ad.add kk) = some (.int .i64 (l0.getD kk 0)) := by simpa [rd] using hx
      clear hx
      generalize hy : l0.getD kk 0 = y at hx2
      have HY := Aside0.mk hy
      clear hy
      have hcall := HP.out.drawn y m
      have hf := Aside0.mk (firstAt_drop p l0 kk hlt)
      cases hq : p y with
      | true =>
        rw [hq] at hcall
        have HQ := Aside0.mk hq
        clear hq
        go_wp2_with fail
        refine hcall.mono ?_
        rintro e w' ⟨rfl, q, rfl⟩
        clear hcall
        go_wp2
        go_ret
        refine ⟨?_, ⟨m + q, by simp [World.drewN_drewN]⟩⟩
        have := HA.out.2.2
        rw [this, hf.out, HY.out, HQ.out]
        rfl
      | false =>
        rw [hq] at hcall
        have HQ := Aside0.mk hq
        clear hq
        go_wp2_with fail
        refine hcall.mono ?_
        rintro e w' ⟨rfl, q, rfl⟩
        clear hcall
        go_wp2
        go_roundg (l0.length - kk - 1)
        case measure => have := HA.out.2.1; omega
        case rel =>
          refine ⟨kk + 1, m + q, by go_num, by simp [World.drewN_drewN], ⟨by omega, by have := HA.out.2.1; omega, ?_⟩⟩
          rw [HA.out.2.2, hf.out, HY.out, HQ.out]
          rfl
    · have hge : (l0.length : Int) ≤ (kk : Int) := by omega
      go_wp2
      go_ret
      refine ⟨?_, ⟨m, rfl⟩⟩
      rw [HA.out.2.2, List.drop_eq_nil_of_le (by omega)]
      rfl
-- MANUAL
set_option maxHeartbeats 1000000 in
theorem slices_ContainsFunc.calls (g : Nat) (lb : Array Value) (p : Int → Bool) (eg : ∀ args w, (callFunc g args).run Try.prog w = .ok (.enter g args) w) (A0 : Option Addr) (c0 : Nat) (l0 : List Int) (w : World) (hp : PredI g lb p w)
    (hr0 : Kd.C (Kd.int .i64) w A0 l0.length l0) :
    Calls Try.prog 49 #[.slice A0 l0.length c0, .func (.func g) #[] lb] w fun e w' => e = .returned (.bool (l0.any p)) ∧ Drawn0 w w' := by
  have hc := slices_IndexFunc.calls g lb p eg A0 c0 l0 w hp hr0
  rw [← firstAt_any p l0 0 (by omega)]
  clear hp hr0
  go_enter Try.func49, Try.ntmps49
  go_wp2_with (go_at_call 64; refine hc.mono ?_; rintro e w' ⟨rfl, ⟨⟨q, rfl⟩⟩⟩)
  go_ret
  exact ⟨rfl, ⟨q, rfl⟩⟩
-- MANUAL
def impl_isSet.p (n : Nat) (s : Int) : Bool := !((impl_in.f s 0 (wrap64 (shl .i64 1 (n : Int) - 1))).getD false)
def impl_isSet.f (k : Nat) (l0_0 : List Int) (a0_1 : Bool) (l1 : List Int) : Option (Bool) := (impl_isGraph.f k l0_0 a0_1).bind fun t1 => (if t1 = true then (some (!(l1.any (impl_isSet.p l0_0.length)))) else (some false))
theorem impl_isSet.in_some (x u : Int) : impl_in.f x 0 u = some ((impl_in.f x 0 u).getD false) := by
  unfold impl_in.f
  split <;> rfl
set_option maxHeartbeats 1000000 in
theorem impl_isSet.lit (B n c : Nat) (A : Option Addr) (x : Int) (W : World) (hc : W.cell? ⟨B, 0, none⟩ = some (.slice A n c)) :
    Calls Try.prog 50 #[.int .i64 x, .pointer (some ⟨B, 0, none⟩)] W fun e w' => e = .returned (.bool (impl_isSet.p n x)) ∧ Drawn0 W w' := by
  have h1 : impl_whole.f (n : Int) = some (wrap64 (shl .i64 1 (n : Int) - 1)) := by unfold impl_whole.f; rw [if_pos (by omega)]
  have h2 := impl_isSet.in_some x (wrap64 (shl .i64 1 (n : Int) - 1))
  unfold impl_isSet.p
  generalize wrap64 (shl .i64 1 (n : Int) - 1) = u at h1 h2 ⊢
  generalize (impl_in.f x 0 u).getD false = b at h2 ⊢
  have hw := fun w => impl_whole.calls (n : Int) u w h1
  have hi := fun w => impl_in.calls x 0 u b w h2
  clear h1 h2
  go_enter Try.func50, Try.ntmps50
  go_wp2_with (first | (go_at_call 52; refine (hw _).mono ?_; rintro e w' ⟨rfl, ⟨⟨q, rfl⟩⟩⟩) | (go_at_call 51; refine (hi _).mono ?_; rintro e w' ⟨rfl, ⟨⟨q, rfl⟩⟩⟩))
  go_ret
  exact ⟨rfl, by repeat (first | exact Drawn0.refl _ | apply Drawn0.step)⟩
set_option maxHeartbeats 1000000 in
theorem impl_isSet.calls (k : Nat) (A0_0 : Option Addr) (c0_0 : Nat) (l0_0 : List Int) (a0_1 : Bool) (A1 : Option Addr) (c1 : Nat) (l1 : List Int) (r : Bool) (w : World) (hr0_0 : Kd.C (Kd.int .i64) w A0_0 l0_0.length l0_0) (hc0_0 : l0_0.length ≤ c0_0) (hr1 : Kd.C (Kd.int .i64) w A1 l1.length l1) (hc1 : l1.length ≤ c1) (h : impl_isSet.f k l0_0 a0_1 l1 = some r) :
    Calls Try.prog 25 #[.agg #[.slice A0_0 l0_0.length c0_0, .bool a0_1], .slice A1 l1.length c1] w fun e w' => e = .returned (.bool r) ∧ Below w.heap.size w w' := by
  unfold impl_isSet.f at h
  obtain ⟨t, ht, h⟩ := Option.bind_eq_some_iff.1 h
  have HG := Aside0.mk (fun (w : World) (hr : Kd.C (Kd.int .i64) w A0_0 l0_0.length l0_0) => impl_isGraph.calls k A0_0 c0_0 l0_0 a0_1 t w hr hc0_0 ht)
  have HR0 := Aside0.mk hr0_0
  have HR1 := Aside0.mk hr1
  clear hr0_0 hr1 ht hc0_0 hc1
  have hp : ∀ W : World, W.cell? ⟨w.heap.size, 0, none⟩ = some (.slice A0_0 l0_0.length c0_0) → w.heap.size < W.heap.size → PredI 50 #[.pointer (some ⟨w.heap.size, 0, none⟩)] (impl_isSet.p l0_0.length) W := fun W hc hb W' x hW => impl_isSet.lit _ _ _ _ x W' ((hW.cell (p := ⟨w.heap.size, 0, none⟩) hb).trans hc)
  have HC := Aside0.mk (fun (W : World) (hc : W.cell? ⟨w.heap.size, 0, none⟩ = some (.slice A0_0 l0_0.length c0_0)) (hb : w.heap.size < W.heap.size) (hr : Kd.C (Kd.int .i64) W A1 l1.length l1) => slices_ContainsFunc.calls 50 #[.pointer (some ⟨w.heap.size, 0, none⟩)] (impl_isSet.p l0_0.length) (Go.Proofs.enters_of Try.func50 (by kernel_rfl) rfl) A1 c1 l1 W (hp W hc hb) hr)
  clear hp
  generalize l1.any (impl_isSet.p l0_0.length) = b at h HC
  cases t with
  | false =>
    obtain rfl := Option.some.inj h
    clear HC
    go_enter Try.func25, Try.ntmps25
    go_wp2_with fail
    refine (HG.out _ (Kd.C_alloc HR0.out _)).mono ?_
    rintro e w1 ⟨rfl, hb1⟩
    have hb2 : Below w.heap.size w w1 := below_then (below_alloc (Below.refl _ _) _) (by simp) hb1
    have HB2 := Aside0.mk hb2
    clear hb1 hb2
    go_wp2
    go_ret
    exact ⟨rfl, HB2.out⟩
  | true =>
    obtain rfl := Option.some.inj h
    go_enter Try.func25, Try.ntmps25
    go_wp2_with fail
    refine (HG.out _ (Kd.C_alloc HR0.out _)).mono ?_
    rintro e w1 ⟨rfl, hb1⟩
    have hb2 : Below w.heap.size w w1 := below_then (below_alloc (Below.refl _ _) _) (by simp) hb1
    have hc1 : w1.cell? ⟨w.heap.size, 0, none⟩ = some (.slice A0_0 l0_0.length c0_0) := (hb1.cell (p := ⟨w.heap.size, 0, none⟩) (by simp)).trans (by simp)
    have hz1 : w.heap.size < w1.heap.size := by have := hb1.size; simp at this; omega
    have HB2 := Aside0.mk hb2
    have HX := HC.out w1 hc1 hz1 (Kd.C_below HR1.out hb2)
    clear hb1 hb2 hc1 hz1 HC
    go_wp2_with fail
    refine HX.mono ?_
    clear HX
    rintro e w' ⟨rfl, ⟨⟨q, rfl⟩⟩⟩
    go_wp2
    go_ret
    exact ⟨rfl, pw_below_drewN HB2.out _⟩
end Go.Proofs.Ytlohlngmagpepaa.PFnCutsAndEvenEdges
