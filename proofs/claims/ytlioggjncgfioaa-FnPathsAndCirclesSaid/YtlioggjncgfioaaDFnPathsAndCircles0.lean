/- What is drawn for FnPathsAndCircles: within bounds, whatever it is. -/
import Derived.Test.YtlioggjncgfioaaPFnPathsAndCirclesx
import Derived.Test.YtlioggjncgfioaaM1
import Derived.Test.YtlioggjncgfioaaGr
import Derived.WalkKit
import Derived.RowKit3
import Derived.Deep.QuietTactic
import Derived.BigQuiet
import Derived.Deep.DeepCutAuto
import Derived.Deep.CutBlock
import Derived.Deep.LoopGhost
import Derived.Outline
import Derived.Deep.DeepFit
namespace Go.Proofs.Ytlioggjncgfioaa.Draw
open Go.RowKit Go.Proofs.Ytlioggjncgfioaa.PFnPathsAndCircles Go.Proofs.YtlioggjncgfioaaW.PrintWords Go.Proofs.YtlioggjncgfioaaW.PrintLast Go.Proofs.YtlioggjncgfioaaW.PrintMore Go.Proofs.YtlioggjncgfioaaM
attribute [local go_sem] max2_int min2_int max_two min_two max_three min_three max_four min_four
set_option linter.unusedVariables false
set_option linter.unusedSimpArgs false
/-! The drawing state: what its functions return lies within bounds, whatever it is. -/
/-- The drawing state at block g, of which at most a choices were taken. -/
def Cur (w0 : World) (g : Nat) (a : Int) (w : World) : Prop := ∃ (l : List Int) (s1 s2 : Int), IsS53 w0 w g l s1 s2 ∧ 0 ≤ s1 ∧ s1 ≤ a ∧ Below w0.heap.size w0 w ∧ ∀ x ∈ l, 0 ≤ x ∧ x ≤ 255
variable {w0 w w1 W : World} {g : Nat} {a : Int}
theorem Cur.size (h : Cur w0 g a w) : w0.heap.size ≤ w.heap.size := by obtain ⟨_, _, _, _, _, _, h, _⟩ := h; exact h.size
theorem Cur.base (h : Cur w0 g a w) : Below w0.heap.size w0 w := by obtain ⟨_, _, _, _, _, _, h, _⟩ := h; exact h
theorem Cur.lt (h : Cur w0 g a w) : g < w.heap.size := by obtain ⟨_, _, _, h, _⟩ := h; exact h.lt
theorem Cur.ge (h : Cur w0 g a w) : w0.heap.size ≤ g := by obtain ⟨_, _, _, h, _⟩ := h; exact h.ge
theorem Cur.le {b : Int} (h : Cur w0 g a w) (hb : a ≤ b) : Cur w0 g b w := by obtain ⟨l, s1, s2, h, h0, h1, h2⟩ := h; exact ⟨l, s1, s2, h, h0, by omega, h2⟩
theorem Cur.below (h : Cur w0 g a w) (hb : Below w.heap.size w w1) : Cur w0 g a w1 := by obtain ⟨l, s1, s2, h, h0, h1, h2, h3⟩ := h; exact ⟨l, s1, s2, h.below hb, h0, h1, below_step h2 hb, h3⟩
theorem Cur.alloc (h : Cur w0 g a w) (o : Obj) : Cur w0 g a (w.alloc o) := h.below (below_alloc (Below.refl _ _) o)
theorem Cur.drewN (h : Cur w0 g a w) (m : Nat) : Cur w0 g a (w.drewN m) := h.below (pw_below_drewN (Below.refl _ _) m)
theorem Cur.drew (h : Cur w0 g a w) : Cur w0 g a w.drew := h.below (below_drew1 (Below.refl _ _))
theorem Cur.far (h : Cur w0 g a w) {p : Addr} (hp : w0.heap.size ≤ p.block) (hne : p.block ≠ g) (u : Value) : Cur w0 g a (w.setCell p u) := by
  obtain ⟨l, s1, s2, h, h0, h1, h2, h3⟩ := h
  exact ⟨l, s1, s2, h.far (fun e => hne e.symm) u, h0, h1, h2.setCell hp u, h3⟩
theorem Cur.new (w : World) (A0 : Option Addr) (c0 : Nat) (l : List Int) (hr : Kd.C (Kd.int .u8) w A0 l.length l) (hl : ∀ x ∈ l, 0 ≤ x ∧ x ≤ 255) : Cur w w.heap.size 0 (w.alloc (.cells #[.slice A0 l.length c0, .int .i64 0, .int .u64 0] 53)) :=
  ⟨l, 0, 0, IsS53.new w w A0 c0 l 0 0 (Below.refl _ _) hr, by omega, by omega, below_alloc (Below.refl _ _) _, hl⟩
theorem nx_and (x : Int) : 0 ≤ wrap64 (Go.bits .and .u64 x 255) ∧ wrap64 (Go.bits .and .u64 x 255) ≤ 255 := by
  have h : Go.bits .and .u64 x 255 = IntKind.u64.wrap ((((BitVec.ofInt 64 x) &&& (BitVec.ofInt 64 255)).toNat : Nat) : Int) := rfl
  rw [h, BitVec.toNat_and, show (BitVec.ofInt 64 255).toNat = 255 from by decide]
  have hb := @Nat.and_le_right (BitVec.ofInt 64 x).toNat 255
  generalize (BitVec.ofInt 64 x).toNat &&& 255 = m at hb
  have e : IntKind.u64.wrap (m : Int) = m := by
    simp only [IntKind.wrap]
    simp [IntKind.signed, IntKind.bits]
    omega
  rw [e]
  unfold wrap64
  omega
theorem spec_l1Cur_next.some (l : List Int) (s1 s2 : Int) (h0 : 0 ≤ s1) (h1 : s1 ≤ 4611686018427387904) (hl : ∀ x ∈ l, 0 ≤ x ∧ x ≤ 255) : ∃ v s3, spec_l1Cur_next.f l s1 s2 = some (v, s1 + 1, s3) ∧ 0 ≤ v ∧ v ≤ 255 := by
  have e1 : wrap64 (s1 + 1) = s1 + 1 := by unfold wrap64; omega
  unfold spec_l1Cur_next.f
  rw [e1]
  split
  · have hm := hl _ (rd_mem l s1 h0 (by assumption))
    have e2 : wrap64 (rd l s1) = rd l s1 := by unfold wrap64; omega
    simp only [if_pos h0, e2]
    split
    · exact ⟨_, _, rfl, hm.1, hm.2⟩
    · exact ⟨_, _, rfl, (nx_and _).1, (nx_and _).2⟩
  · split
    · exact ⟨_, _, rfl, by omega, by omega⟩
    · exact ⟨_, _, rfl, (nx_and _).1, (nx_and _).2⟩
theorem Int.emod_le {a b : Int} (h : 0 ≤ a) (hb : 0 < b) : a % b ≤ a := by
  have h1 := Int.mul_ediv_add_emod a b
  have h2 := Int.mul_nonneg (Int.le_of_lt hb) (Int.ediv_nonneg h (Int.le_of_lt hb))
  omega
theorem spec_l1Cur_pick.some (l : List Int) (s1 s2 n : Int) (h0 : 0 ≤ s1) (h1 : s1 ≤ 4611686018427387900) (hl : ∀ x ∈ l, 0 ≤ x ∧ x ≤ 255) : ∃ v s3 s4, spec_l1Cur_pick.f l s1 s2 n = some (v, s3, s4) ∧ 0 ≤ v ∧ v ≤ 65535 ∧ (v = 0 ∨ v < n) ∧ s1 ≤ s3 ∧ s3 ≤ s1 + 2 := by
  unfold spec_l1Cur_pick.f
  split
  · exact ⟨_, _, _, rfl, by omega, by omega, by omega, by omega, by omega⟩
  · obtain ⟨v, s3, e, h2, h3⟩ := spec_l1Cur_next.some l s1 s2 h0 (by omega) hl
    rw [e, Option.bind_some]
    split
    · obtain ⟨v2, s4, e2, h4, h5⟩ := spec_l1Cur_next.some l (s1 + 1) s3 (by omega) (by omega) hl
      rw [e2, Option.bind_some, if_neg (by omega)]
      have hw : 0 ≤ wrap64 (wrap64 (v * 256) + v2) ∧ wrap64 (wrap64 (v * 256) + v2) ≤ 65535 := by unfold wrap64; omega
      refine ⟨_, _, _, rfl, Int.tmod_nonneg _ hw.1, ?_, .inr ?_, by simp only; omega, by simp only; omega⟩
      · simp only
        rw [Int.tmod_eq_emod_of_nonneg hw.1]
        exact Int.le_trans (Int.emod_le hw.1 (by omega)) hw.2
      · simp only
        rw [Int.tmod_eq_emod_of_nonneg hw.1]
        exact Int.emod_lt_of_pos _ (by omega)
    · rw [if_neg (by omega)]
      refine ⟨_, _, _, rfl, Int.tmod_nonneg _ h2, ?_, .inr ?_, by simp only; omega, by simp only; omega⟩
      · simp only
        rw [Int.tmod_eq_emod_of_nonneg h2]
        exact Int.le_trans (Int.emod_le h2 (by omega)) (by omega)
      · simp only
        rw [Int.tmod_eq_emod_of_nonneg h2]
        exact Int.emod_lt_of_pos _ (by omega)
theorem pick_any (n : Int) (w : World) (hc : Cur w0 g a w) (ha : a ≤ 1152921504606846976) : Calls Try.prog 50 #[.pointer (some ⟨g, 0, none⟩), .int .i64 n] w fun e w' => ∃ v : Int, e = .returned (.int .i64 v) ∧ 0 ≤ v ∧ v ≤ 65535 ∧ Aside0 (v = 0 ∨ v < n) ∧ Cur w0 g (a + 2) w' ∧ KeepBut w w' g none := by
  obtain ⟨l, s1, s2, hi, h0, h1, hb, hl⟩ := hc
  obtain ⟨v, s3, s4, e, hv, hv1, hn, h3, h4⟩ := spec_l1Cur_pick.some l s1 s2 n h0 (by omega) hl
  refine (spec_l1Cur_pick.calls g l s1 s2 n v s3 s4 w0 w hi hb e).mono ?_
  rintro e' w' ⟨he, hI, hB, hK⟩
  exact ⟨v, he, hv, hv1, ⟨hn⟩, ⟨l, s3, s4, hI, by omega, by omega, hB, hl⟩, hK⟩
theorem one_any (n : Int) (w : World) (hc : Cur w0 g a w) (ha : a ≤ 1152921504606846976) : Calls Try.prog 48 #[.pointer (some ⟨g, 0, none⟩), .int .i64 n] w fun e w' => ∃ b : Bool, e = .returned (.bool b) ∧ Cur w0 g (a + 2) w' ∧ KeepBut w w' g none := by
  obtain ⟨l, s1, s2, hi, h0, h1, hb, hl⟩ := hc
  obtain ⟨v, s3, s4, e, hv, hv1, hn, h3, h4⟩ := spec_l1Cur_pick.some l s1 s2 n h0 (by omega) hl
  refine (spec_l1Cur_one.calls g l s1 s2 n (v == 0) s3 s4 w0 w hi hb (by unfold spec_l1Cur_one.f; rw [e]; rfl)).mono ?_
  rintro e' w' ⟨he, hI, hB, hK⟩
  exact ⟨_, he, ⟨l, s3, s4, hI, by omega, by omega, hB, hl⟩, hK⟩
/-! One of some numbers that is drawn. -/
theorem C_lit (W : World) (l : List Int) (hl : l.length ≤ 1000) : Kd.C (Kd.int .i64) (W.alloc (.cells (l.map (Value.int .i64)).toArray 3)) (some ⟨W.heap.size, 0, none⟩) l.length l := by
  refine Kd.C_of_reads (d := (0 : Int)) (h1 := fun _ => rfl) ⟨rfl, by omega, fun _ => ⟨_, rfl, fun j hj => ?_⟩⟩
  have h := blk_cell (blk_new W (.cells (l.map (Value.int .i64)).toArray 3)) j
  have e : (⟨W.heap.size, 0, none⟩ : Addr).add j = ⟨W.heap.size, j, none⟩ := by
    simp [Addr.add]
    omega
  rw [e, h]
  simp [List.getD_eq_getElem?_getD, List.getElem?_eq_getElem hj]
/-- The slice A reads as l and lies apart from g. -/
def Apart (w : World) (g : Nat) (A : Option Addr) (l : List Int) : Prop := Kd.C (Kd.int .i64) w A l.length l ∧ ∀ ad, A = some ad → 0 < l.length → ad.block ≠ g
theorem among_any {A : Option Addr} {c : Nat} {l : List Int} (w : World) (hc : Cur w0 g a w) (ha : a ≤ 1152921504606846976) (h : Apart w g A l) (hl : 0 < l.length) (hcl : l.length ≤ c) : Calls Try.prog 49 #[.pointer (some ⟨g, 0, none⟩), .slice A l.length c] w fun e w' => ∃ v : Int, e = .returned (.int .i64 v) ∧ Aside0 (v ∈ l) ∧ Cur w0 g (a + 2) w' ∧ KeepBut w w' g none := by
  obtain ⟨m, s1, s2, hi, h0, h1, hb, hm⟩ := hc
  obtain ⟨v, s3, s4, e, hv, hv1, hn, h3, h4⟩ := spec_l1Cur_pick.some m s1 s2 (l.length : Int) h0 (by omega) hm
  refine (spec_l1Cur_among.calls g m s1 s2 A c l (rd l v) s3 s4 w0 w hi hb h.1 hcl h.2 (by unfold spec_l1Cur_among.f; rw [e, Option.bind_some, if_pos hv, if_pos (by omega)])).mono ?_
  rintro e' w' ⟨he, hI, hB, hK⟩
  exact ⟨_, he, ⟨rd_mem l v hv (by omega)⟩, ⟨m, s3, s4, hI, by omega, by omega, hB, hm⟩, hK⟩
theorem among_lit {b k : Nat} {l : List Int} (w : World) (hc : Cur w0 g a w) (ha : a ≤ 1152921504606846976) (h : Kd.C (Kd.int .i64) w (some ⟨b, 0, none⟩) l.length l) (hg : b ≠ g) (hk : l.length = k) (hl : 0 < k) : Calls Try.prog 49 #[.pointer (some ⟨g, 0, none⟩), .slice (some ⟨b, 0, none⟩) k k] w fun e w' => ∃ v : Int, e = .returned (.int .i64 v) ∧ Aside0 (v ∈ l) ∧ Cur w0 g (a + 2) w' ∧ KeepBut w w' g none := by
  subst hk
  exact among_any w hc ha ⟨h, fun ad e _ => by injection e with e; rw [← e]; exact hg⟩ hl (Nat.le_refl _)
end Go.Proofs.Ytlioggjncgfioaa.Draw
