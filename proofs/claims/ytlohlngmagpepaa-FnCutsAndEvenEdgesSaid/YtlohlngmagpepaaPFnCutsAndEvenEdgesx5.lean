-- Written by a program of this session (wip/tools/mp.py) around the kit's printer; Lean checks it.
import Derived.Test.YtlohlngmagpepaaPFnCutsAndEvenEdgesx0
import Derived.Test.YtlohlngmagpepaaPFnCutsAndEvenEdgesx1
import Derived.Test.YtlohlngmagpepaaPFnCutsAndEvenEdgesx2
import Derived.Shelf.Abstract
namespace Go.Proofs.Ytlohlngmagpepaa.PFnCutsAndEvenEdges
open Go.RowKit Go.Proofs.YtlohlngmagpepaaW.PrintWords Go.Proofs.YtlohlngmagpepaaW.PrintLast Go.Proofs.YtlohlngmagpepaaW.PrintMore
attribute [local go_sem] max2_int min2_int max_two min_two max_three min_three max_four min_four   -- for this text's walks alone
set_option linter.unusedVariables false
set_option linter.unusedSimpArgs false
-- MANUAL
def impl_hasButton.p (n : Nat) (s : Int) : Bool := !((impl_in.f s 0 (wrap64 ((n : Int) - 1))).getD false)
def impl_hasButton.f (k : Nat) (l0_0 : List Int) (a0_1 : Bool) (l1 : List Int) : Option (Bool) := (impl_isGraph.f k l0_0 a0_1).bind fun t1 => (if t1 = true then (some (!(l1.any (impl_hasButton.p l0_0.length)))) else (some false))
theorem impl_hasButton.in_some (x u : Int) : impl_in.f x 0 u = some ((impl_in.f x 0 u).getD false) := by
  unfold impl_in.f
  split <;> rfl
set_option maxHeartbeats 1000000 in
theorem impl_hasButton.lit (B n c : Nat) (A : Option Addr) (x : Int) (W : World) (hc : W.cell? ⟨B, 0, none⟩ = some (.slice A n c)) :
    Calls Try.prog 61 #[.int .i64 x, .pointer (some ⟨B, 0, none⟩)] W fun e w' => e = .returned (.bool (impl_hasButton.p n x)) ∧ Drawn0 W w' := by
  have h2 := impl_hasButton.in_some x (wrap64 ((n : Int) - 1))
  unfold impl_hasButton.p
  generalize hu : wrap64 ((n : Int) - 1) = u at h2 ⊢
  generalize (impl_in.f x 0 u).getD false = b at h2 ⊢
  have hi := fun w => impl_in.calls x 0 u b w h2
  clear h2
  go_enter Try.func61, Try.ntmps61
  go_wp2_with (go_at_call 51; refine (hi _).mono ?_; rintro e w' ⟨rfl, ⟨⟨q, rfl⟩⟩⟩)
  go_ret
  exact ⟨rfl, by repeat (first | exact Drawn0.refl _ | apply Drawn0.step)⟩
set_option maxHeartbeats 1000000 in
theorem impl_hasButton.calls (k : Nat) (A0_0 : Option Addr) (c0_0 : Nat) (l0_0 : List Int) (a0_1 : Bool) (A1 : Option Addr) (c1 : Nat) (l1 : List Int) (r : Bool) (w : World) (hr0_0 : Kd.C (Kd.int .i64) w A0_0 l0_0.length l0_0) (hc0_0 : l0_0.length ≤ c0_0) (hr1 : Kd.C (Kd.int .i64) w A1 l1.length l1) (hc1 : l1.length ≤ c1) (h : impl_hasButton.f k l0_0 a0_1 l1 = some r) :
    Calls Try.prog 39 #[.agg #[.slice A0_0 l0_0.length c0_0, .bool a0_1], .slice A1 l1.length c1] w fun e w' => e = .returned (.bool r) ∧ Below w.heap.size w w' := by
  unfold impl_hasButton.f at h
  obtain ⟨t, ht, h⟩ := Option.bind_eq_some_iff.1 h
  have HG := Aside0.mk (fun (w : World) (hr : Kd.C (Kd.int .i64) w A0_0 l0_0.length l0_0) => impl_isGraph.calls k A0_0 c0_0 l0_0 a0_1 t w hr hc0_0 ht)
  have HR0 := Aside0.mk hr0_0
  have HR1 := Aside0.mk hr1
  clear hr0_0 hr1 ht hc0_0 hc1
  have hp : ∀ W : World, W.cell? ⟨w.heap.size, 0, none⟩ = some (.slice A0_0 l0_0.length c0_0) → w.heap.size < W.heap.size → PredI 61 #[.pointer (some ⟨w.heap.size, 0, none⟩)] (impl_hasButton.p l0_0.length) W := fun W hc hb W' x hW => impl_hasButton.lit _ _ _ _ x W' ((hW.cell (p := ⟨w.heap.size, 0, none⟩) hb).trans hc)
  have HC := Aside0.mk (fun (W : World) (hc : W.cell? ⟨w.heap.size, 0, none⟩ = some (.slice A0_0 l0_0.length c0_0)) (hb : w.heap.size < W.heap.size) (hr : Kd.C (Kd.int .i64) W A1 l1.length l1) => slices_ContainsFunc.calls 61 #[.pointer (some ⟨w.heap.size, 0, none⟩)] (impl_hasButton.p l0_0.length) (Go.Proofs.enters_of Try.func61 (by kernel_rfl) rfl) A1 c1 l1 W (hp W hc hb) hr)
  clear hp
  generalize l1.any (impl_hasButton.p l0_0.length) = b at h HC
  cases t with
  | false =>
    obtain rfl := Option.some.inj h
    clear HC
    go_enter Try.func39, Try.ntmps39
    go_wp2_with fail
    refine (HG.out _ (Kd.C_alloc HR0.out _)).mono ?_
    rintro e w1 ⟨rfl, hb1⟩
    have hb2 : Below w.heap.size w w1 := below_then (below_alloc (Below.refl _ _) _) (by simp) hb1
    have HB2 := Aside0.mk hb2
    clear hb1 hb2
    go_wp2
    go_ret
    exact ⟨rfl, HB2.out⟩
  | true =>
    obtain rfl := Option.some.inj h
    go_enter Try.func39, Try.ntmps39
    go_wp2_with fail
    refine (HG.out _ (Kd.C_alloc HR0.out _)).mono ?_
    rintro e w1 ⟨rfl, hb1⟩
    have hb2 : Below w.heap.size w w1 := below_then (below_alloc (Below.refl _ _) _) (by simp) hb1
    have hc1 : w1.cell? ⟨w.heap.size, 0, none⟩ = some (.slice A0_0 l0_0.length c0_0) := (hb1.cell (p := ⟨w.heap.size, 0, none⟩) (by simp)).trans (by simp)
    have hz1 : w.heap.size < w1.heap.size := by have := hb1.size; simp at this; omega
    have HB2 := Aside0.mk hb2
    have HX := HC.out w1 hc1 hz1 (Kd.C_below HR1.out hb2)
    clear hb1 hb2 hc1 hz1 HC
    go_wp2_with fail
    refine HX.mono ?_
    clear HX
    rintro e w' ⟨rfl, ⟨⟨q, rfl⟩⟩⟩
    go_wp2
    go_ret
    exact ⟨rfl, pw_below_drewN HB2.out _⟩
end Go.Proofs.Ytlohlngmagpepaa.PFnCutsAndEvenEdges
