/- What is drawn for FnCutsAndEvenEdges: within bounds, whatever it is. -/
import Derived.Test.YtlohlngmagpepaaPFnCutsAndEvenEdgesx
import Derived.Test.YtlohlngmagpepaaM1
import Derived.Test.YtlohlngmagpepaaGr
import Derived.WalkKit
import Derived.RowKit3
import Derived.Deep.QuietTactic
import Derived.BigQuiet
import Derived.Deep.DeepCutAuto
import Derived.Deep.CutBlock
import Derived.Deep.LoopGhost
import Derived.Outline
import Derived.Deep.DeepFit
namespace Go.Proofs.Ytlohlngmagpepaa.Draw
open Go.RowKit Go.Proofs.Ytlohlngmagpepaa.PFnCutsAndEvenEdges Go.Proofs.YtlohlngmagpepaaW.PrintWords Go.Proofs.YtlohlngmagpepaaW.PrintLast Go.Proofs.YtlohlngmagpepaaW.PrintMore Go.Proofs.YtlohlngmagpepaaM
attribute [local go_sem] max2_int min2_int max_two min_two max_three min_three max_four min_four
set_option linter.unusedVariables false
set_option linter.unusedSimpArgs false
def Cur (w0 : World) (g : Nat) (a : Int) (w : World) : Prop := ∃ (l : List Int) (s1 s2 : Int), IsS56 w0 w g l s1 s2 ∧ 0 ≤ s1 ∧ s1 ≤ a ∧ Below w0.heap.size w0 w ∧ ∀ x ∈ l, 0 ≤ x ∧ x ≤ 255
variable {w0 w w1 W : World} {g : Nat} {a : Int}
theorem Cur.size (h : Cur w0 g a w) : w0.heap.size ≤ w.heap.size := by obtain ⟨_, _, _, _, _, _, h, _⟩ := h; exact h.size
theorem Cur.base (h : Cur w0 g a w) : Below w0.heap.size w0 w := by obtain ⟨_, _, _, _, _, _, h, _⟩ := h; exact h
theorem Cur.lt (h : Cur w0 g a w) : g < w.heap.size := by obtain ⟨_, _, _, h, _⟩ := h; exact h.lt
theorem Cur.ge (h : Cur w0 g a w) : w0.heap.size ≤ g := by obtain ⟨_, _, _, h, _⟩ := h; exact h.ge
theorem Cur.le {b : Int} (h : Cur w0 g a w) (hb : a ≤ b) : Cur w0 g b w := by obtain ⟨l, s1, s2, h, h0, h1, h2⟩ := h; exact ⟨l, s1, s2, h, h0, by omega, h2⟩
theorem Cur.below (h : Cur w0 g a w) (hb : Below w.heap.size w w1) : Cur w0 g a w1 := by obtain ⟨l, s1, s2, h, h0, h1, h2, h3⟩ := h; exact ⟨l, s1, s2, h.below hb, h0, h1, below_step h2 hb, h3⟩
theorem Cur.alloc (h : Cur w0 g a w) (o : Obj) : Cur w0 g a (w.alloc o) := h.below (below_alloc (Below.refl _ _) o)
theorem Cur.drewN (h : Cur w0 g a w) (m : Nat) : Cur w0 g a (w.drewN m) := h.below (pw_below_drewN (Below.refl _ _) m)
theorem Cur.drew (h : Cur w0 g a w) : Cur w0 g a w.drew := h.below (below_drew1 (Below.refl _ _))
theorem Cur.far (h : Cur w0 g a w) {p : Addr} (hp : w0.heap.size ≤ p.block) (hne : p.block ≠ g) (u : Value) : Cur w0 g a (w.setCell p u) := by
  obtain ⟨l, s1, s2, h, h0, h1, h2, h3⟩ := h
  exact ⟨l, s1, s2, h.far (fun e => hne e.symm) u, h0, h1, h2.setCell hp u, h3⟩
theorem Cur.new (w : World) (A0 : Option Addr) (c0 : Nat) (l : List Int) (hr : Kd.C (Kd.int .u8) w A0 l.length l) (hl : ∀ x ∈ l, 0 ≤ x ∧ x ≤ 255) : Cur w w.heap.size 0 (w.alloc (.cells #[.slice A0 l.length c0, .int .i64 0, .int .u64 0] 56)) :=
  ⟨l, 0, 0, IsS56.new w w A0 c0 l 0 0 (Below.refl _ _) hr, by omega, by omega, below_alloc (Below.refl _ _) _, hl⟩
theorem nx_and (x : Int) : 0 ≤ wrap64 (Go.bits .and .u64 x 255) ∧ wrap64 (Go.bits .and .u64 x 255) ≤ 255 := by
  have h : Go.bits .and .u64 x 255 = IntKind.u64.wrap ((((BitVec.ofInt 64 x) &&& (BitVec.ofInt 64 255)).toNat : Nat) : Int) := rfl
  rw [h, BitVec.toNat_and, show (BitVec.ofInt 64 255).toNat = 255 from by decide]
  have hb := @Nat.and_le_right (BitVec.ofInt 64 x).toNat 255
  generalize (BitVec.ofInt 64 x).toNat &&& 255 = m at hb
  have e : IntKind.u64.wrap (m : Int) = m := by
    simp only [IntKind.wrap]
    simp [IntKind.signed, IntKind.bits]
    omega
  rw [e]
  unfold wrap64
  omega
theorem spec_l1Cur_next.some (l : List Int) (s1 s2 : Int) (h0 : 0 ≤ s1) (h1 : s1 ≤ 4611686018427387904) (hl : ∀ x ∈ l, 0 ≤ x ∧ x ≤ 255) : ∃ v s3, spec_l1Cur_next.f l s1 s2 = some (v, s1 + 1, s3) ∧ 0 ≤ v ∧ v ≤ 255 := by
  have e1 : wrap64 (s1 + 1) = s1 + 1 := by unfold wrap64; omega
  unfold spec_l1Cur_next.f
  rw [e1]
  split
  · have hm := hl _ (rd_mem l s1 h0 (by assumption))
    have e2 : wrap64 (rd l s1) = rd l s1 := by unfold wrap64; omega
    simp only [if_pos h0, e2]
    split
    · exact ⟨_, _, rfl, hm.1, hm.2⟩
    · exact ⟨_, _, rfl, (nx_and _).1, (nx_and _).2⟩
  · split
    · exact ⟨_, _, rfl, by omega, by omega⟩
    · exact ⟨_, _, rfl, (nx_and _).1, (nx_and _).2⟩
theorem Int.emod_le {a b : Int} (h : 0 ≤ a) (hb : 0 < b) : a % b ≤ a := by
  have h1 := Int.mul_ediv_add_emod a b
  have h2 := Int.mul_nonneg (Int.le_of_lt hb) (Int.ediv_nonneg h (Int.le_of_lt hb))
  omega
theorem spec_l1Cur_pick.some (l : List Int) (s1 s2 n : Int) (h0 : 0 ≤ s1) (h1 : s1 ≤ 4611686018427387900) (hl : ∀ x ∈ l, 0 ≤ x ∧ x ≤ 255) : ∃ v s3 s4, spec_l1Cur_pick.f l s1 s2 n = some (v, s3, s4) ∧ 0 ≤ v ∧ v ≤ 65535 ∧ (v = 0 ∨ v < n) ∧ s1 ≤ s3 ∧ s3 ≤ s1 + 2 := by
  unfold spec_l1Cur_pick.f
  split
  · exact ⟨_, _, _, rfl, by omega, by omega, by omega, by omega, by omega⟩
  · obtain ⟨v, s3, e, h2, h3⟩ := spec_l1Cur_next.some l s1 s2 h0 (by omega) hl
    rw [e, Option.bind_some]
    split
    · obtain ⟨v2, s4, e2, h4, h5⟩ := spec_l1Cur_next.some l (s1 + 1) s3 (by omega) (by omega) hl
      rw [e2, Option.bind_some, if_neg (by omega)]
      have hw : 0 ≤ wrap64 (wrap64 (v * 256) + v2) ∧ wrap64 (wrap64 (v * 256) + v2) ≤ 65535 := by unfold wrap64; omega
      refine ⟨_, _, _, rfl, Int.tmod_nonneg _ hw.1, ?_, .inr ?_, by simp only; omega, by simp only; omega⟩
      · simp only
        rw [Int.tmod_eq_emod_of_nonneg hw.1]
        exact Int.le_trans (Int.emod_le hw.1 (by omega)) hw.2
      · simp only
        rw [Int.tmod_eq_emod_of_nonneg hw.1]
        exact Int.emod_lt_of_pos _ (by omega)
    · rw [if_neg (by omega)]
      refine ⟨_, _, _, rfl, Int.tmod_nonneg _ h2, ?_, .inr ?_, by simp only; omega, by simp only; omega⟩
      · simp only
        rw [Int.tmod_eq_emod_of_nonneg h2]
        exact Int.le_trans (Int.emod_le h2 (by omega)) (by omega)
      · simp only
        rw [Int.tmod_eq_emod_of_nonneg h2]
        exact Int.emod_lt_of_pos _ (by omega)
theorem pick_any (n : Int) (w : World) (hc : Cur w0 g a w) (ha : a ≤ 1152921504606846976) : Calls Try.prog 38 #[.pointer (some ⟨g, 0, none⟩), .int .i64 n] w fun e w' => ∃ v : Int, e = .returned (.int .i64 v) ∧ 0 ≤ v ∧ v ≤ 65535 ∧ Aside0 (v = 0 ∨ v < n) ∧ Cur w0 g (a + 2) w' ∧ KeepBut w w' g none := by
  obtain ⟨l, s1, s2, hi, h0, h1, hb, hl⟩ := hc
  obtain ⟨v, s3, s4, e, hv, hv1, hn, h3, h4⟩ := spec_l1Cur_pick.some l s1 s2 n h0 (by omega) hl
  refine (spec_l1Cur_pick.calls g l s1 s2 n v s3 s4 w0 w hi hb e).mono ?_
  rintro e' w' ⟨he, hI, hB, hK⟩
  exact ⟨v, he, hv, hv1, ⟨hn⟩, ⟨l, s3, s4, hI, by omega, by omega, hB, hl⟩, hK⟩
theorem one_any (n : Int) (w : World) (hc : Cur w0 g a w) (ha : a ≤ 1152921504606846976) : Calls Try.prog 36 #[.pointer (some ⟨g, 0, none⟩), .int .i64 n] w fun e w' => ∃ b : Bool, e = .returned (.bool b) ∧ Cur w0 g (a + 2) w' ∧ KeepBut w w' g none := by
  obtain ⟨l, s1, s2, hi, h0, h1, hb, hl⟩ := hc
  obtain ⟨v, s3, s4, e, hv, hv1, hn, h3, h4⟩ := spec_l1Cur_pick.some l s1 s2 n h0 (by omega) hl
  refine (spec_l1Cur_one.calls g l s1 s2 n (v == 0) s3 s4 w0 w hi hb (by unfold spec_l1Cur_one.f; rw [e]; rfl)).mono ?_
  rintro e' w' ⟨he, hI, hB, hK⟩
  exact ⟨_, he, ⟨l, s3, s4, hI, by omega, by omega, hB, hl⟩, hK⟩
theorem spec_grAdd.some (l : List Int) (own : Bool) (i j : Int) (hi : 0 ≤ i) (hi1 : i < l.length) (hj : 0 ≤ j) (hj1 : j < l.length) : ∃ r, spec_grAdd.f l own i j = some r ∧ r.length = l.length := by
  unfold spec_grAdd.f
  rw [if_pos hi, if_pos hi1, if_pos hj, Option.bind_some, if_pos hj1]
  exact ⟨_, rfl, by simp⟩
theorem spec_grPath.some_l (n : Int) (own : Bool) (hn : n ≤ 1000000) : ∀ (d : Nat) (i : Int) (l : List Int), (n - i).toNat = d → 1 ≤ i → (l.length : Int) = n → ∃ r, Ev (fun k => spec_grPath.l0 k n i l own) (r, own) ∧ (r.length : Int) = n
  | 0, i, l, hd, h1, hl => ⟨l, now fun k => by simp only [spec_grPath.l0]; rw [if_neg (by omega)], hl⟩
  | d + 1, i, l, hd, h1, hl => by
    obtain ⟨r, e, hr⟩ := spec_grAdd.some l own (i - 1) i (by omega) (by omega) (by omega) (by omega)
    obtain ⟨r2, e2, hr2⟩ := spec_grPath.some_l n own hn d (i + 1) r (by omega) (by omega) (by omega)
    refine ⟨r2, Ev.step (f := fun k => spec_grPath.l0 k n (i + 1) r own) (fun k => ?_) e2, hr2⟩
    simp only [spec_grPath.l0]
    rw [if_pos (by omega), wrap_id (by omega) (by omega), e, Option.bind_some, wrap_id (by omega) (by omega)]
theorem spec_grPath.some (n : Int) (own : Bool) (h0 : 0 ≤ n) (hn : n ≤ 1000000) : ∃ r k, spec_grPath.f k n own = some (r, own) ∧ (r.length : Int) = n := by
  obtain ⟨r, ⟨K, e⟩, hr⟩ := spec_grPath.some_l n own hn _ 1 (List.replicate n.toNat 0) rfl (by omega) (by simp; omega)
  refine ⟨r, K, ?_, hr⟩
  unfold spec_grPath.f
  rw [if_pos h0, if_pos (by omega)]
  exact e K (Nat.le_refl _)
theorem spec_grCircle.some (n : Int) (own : Bool) (h0 : 1 ≤ n) (hn : n ≤ 1000000) : ∃ r k, spec_grCircle.f k n own = some (r, own) ∧ (r.length : Int) = n := by
  obtain ⟨r, k, e, hr⟩ := spec_grPath.some n own (by omega) hn
  obtain ⟨r2, e2, hr2⟩ := spec_grAdd.some r own 0 (n - 1) (by omega) (by omega) (by omega) (by omega)
  refine ⟨r2, k, ?_, by omega⟩
  unfold spec_grCircle.f
  rw [e, Option.bind_some]
  simp only
  rw [wrap_id (by omega) (by omega), e2]
  rfl
theorem path_any (n : Int) (own : Bool) (w : World) (h0 : 0 ≤ n) (hn : n ≤ 1000000) : Calls Try.prog 56 #[.int .i64 n, .bool own] w fun e w' => ∃ (v : Value) (l : List Int), e = .returned (.agg #[v, .bool own]) ∧ (l.length : Int) = n ∧ Kd.R (Kd.int .i64) 3 w' w.heap.size (fun _ => True) v l ∧ Below w.heap.size w w' := by
  obtain ⟨r, k, e, hr⟩ := spec_grPath.some n own h0 hn
  exact (spec_grPath.calls k n own r own w e).mono fun _ _ ⟨v, he, h1, h2⟩ => ⟨v, r, he, hr, h1, h2⟩
theorem circle_any (n : Int) (own : Bool) (w : World) (h0 : 1 ≤ n) (hn : n ≤ 1000000) : Calls Try.prog 37 #[.int .i64 n, .bool own] w fun e w' => ∃ (v : Value) (l : List Int), e = .returned (.agg #[v, .bool own]) ∧ (l.length : Int) = n ∧ Kd.R (Kd.int .i64) 3 w' w.heap.size (fun _ => True) v l ∧ Below w.heap.size w w' := by
  obtain ⟨r, k, e, hr⟩ := spec_grCircle.some n own h0 hn
  exact (spec_grCircle.calls k n own r own w e).mono fun _ _ ⟨v, he, h1, h2⟩ => ⟨v, r, he, hr, h1, h2⟩
theorem mul_lt {x c r n : Int} (hc : 0 ≤ c) (hr : 0 ≤ r) (hrn : r < n) (h0 : 0 ≤ x) (hx : x < c) : 0 ≤ c * r ∧ c * r + x < n * c := by
  have h1 := Int.mul_nonneg hc hr
  have h2 : c * r + c ≤ n * c := by
    have := Int.mul_le_mul_of_nonneg_left (show r + 1 ≤ n by omega) hc
    rw [Int.mul_add, Int.mul_one, Int.mul_comm c n] at this
    exact this
  omega
theorem spec_grGrid.some_r (m n : Int) (own : Bool) (hm : 0 ≤ m) (hm1 : m ≤ 1000) (hn : 0 ≤ n) (hn1 : n ≤ 1000) (hs : m * n ≤ 1000000) : ∀ (d : Nat) (i : Int) (l : List Int), (m - i).toNat = d → 0 ≤ i → (l.length : Int) = m * n → ∃ r, Ev (fun k => spec_grGrid.l0 k m n i l own) (r, own) ∧ (r.length : Int) = m * n
  | 0, i, l, hd, h1, hl => ⟨l, now fun k => by simp only [spec_grGrid.l0]; rw [if_neg (by omega)], hl⟩
  | d + 1, i, l, hd, h1, hl => by
    have inner : ∀ (q : Nat) (j : Int) (l : List Int), (n - j).toNat = q → 0 ≤ j → (l.length : Int) = m * n → ∃ r, Ev (fun k => spec_grGrid.l1 k m n i j l own) (r, own) ∧ (r.length : Int) = m * n := by
      intro q
      induction q with
      | zero =>
        intro j l hq hj hl
        obtain ⟨r, e, hr⟩ := spec_grGrid.some_r m n own hm hm1 hn hn1 hs d (i + 1) l (by omega) (by omega) hl
        refine ⟨r, Ev.step (f := fun k => spec_grGrid.l0 k m n (i + 1) l own) (fun k => ?_) e, hr⟩
        simp only [spec_grGrid.l1]
        rw [if_neg (by omega), wrap_id (by omega) (by omega)]
      | succ q ih =>
        intro j l hq hj hl
        have b1 := mul_lt (x := j) hn h1 (show i < m by omega) hj (by omega)
        have w1 : wrap64 (n * i) = n * i := wrap_id (by omega) (by omega)
        have w2 : wrap64 (n * i + j) = n * i + j := wrap_id (by omega) (by omega)
        have w3 : wrap64 (j + 1) = j + 1 := wrap_id (by omega) (by omega)
        have w4 : wrap64 (n * i + j - 1) = n * i + j - 1 := wrap_id (by omega) (by omega)
        have w5 : wrap64 (i - 1) = i - 1 := wrap_id (by omega) (by omega)
        by_cases hi : i > 0
        · have b2 := mul_lt (x := j) hn (show 0 ≤ i - 1 by omega) (show i - 1 < m by omega) hj (by omega)
          have w6 : wrap64 (n * (i - 1)) = n * (i - 1) := wrap_id (by omega) (by omega)
          have w7 : wrap64 (n * (i - 1) + j) = n * (i - 1) + j := wrap_id (by omega) (by omega)
          obtain ⟨l1, e1, hl1⟩ := spec_grAdd.some l own (n * (i - 1) + j) (n * i + j) (by omega) (by omega) (by omega) (by omega)
          by_cases hj0 : j > 0
          · obtain ⟨l2, e2, hl2⟩ := spec_grAdd.some l1 own (n * i + j - 1) (n * i + j) (by omega) (by omega) (by omega) (by omega)
            obtain ⟨r, e, hr⟩ := ih (j + 1) l2 (by omega) (by omega) (by omega)
            refine ⟨r, Ev.step (f := fun k => spec_grGrid.l1 k m n i (j + 1) l2 own) (fun k => ?_) e, hr⟩
            simp only [spec_grGrid.l1]
            rw [if_pos (by omega), if_pos hi, w5, w6, w7, w1, w2, e1, Option.bind_some, if_pos hj0, w4, e2, Option.bind_some, w3]
          · obtain ⟨r, e, hr⟩ := ih (j + 1) l1 (by omega) (by omega) (by omega)
            refine ⟨r, Ev.step (f := fun k => spec_grGrid.l1 k m n i (j + 1) l1 own) (fun k => ?_) e, hr⟩
            simp only [spec_grGrid.l1]
            rw [if_pos (by omega), if_pos hi, w5, w6, w7, w1, w2, e1, Option.bind_some, if_neg hj0, w3]
        · by_cases hj0 : j > 0
          · obtain ⟨l2, e2, hl2⟩ := spec_grAdd.some l own (n * i + j - 1) (n * i + j) (by omega) (by omega) (by omega) (by omega)
            obtain ⟨r, e, hr⟩ := ih (j + 1) l2 (by omega) (by omega) (by omega)
            refine ⟨r, Ev.step (f := fun k => spec_grGrid.l1 k m n i (j + 1) l2 own) (fun k => ?_) e, hr⟩
            simp only [spec_grGrid.l1]
            rw [if_pos (by omega), if_neg hi, w1, w2, if_pos hj0, w4, e2, Option.bind_some, w3]
          · obtain ⟨r, e, hr⟩ := ih (j + 1) l (by omega) (by omega) (by omega)
            refine ⟨r, Ev.step (f := fun k => spec_grGrid.l1 k m n i (j + 1) l own) (fun k => ?_) e, hr⟩
            simp only [spec_grGrid.l1]
            rw [if_pos (by omega), if_neg hi, if_neg hj0, w3]
    obtain ⟨r, e, hr⟩ := inner _ 0 l rfl (by omega) hl
    refine ⟨r, Ev.step (f := fun k => spec_grGrid.l1 k m n i 0 l own) (fun k => ?_) e, hr⟩
    simp only [spec_grGrid.l0]
    rw [if_pos (by omega)]
theorem spec_grGrid.some (m n : Int) (own : Bool) (hm : 0 ≤ m) (hm1 : m ≤ 1000) (hn : 0 ≤ n) (hn1 : n ≤ 1000) : ∃ r k, spec_grGrid.f k m n own = some (r, own) ∧ (r.length : Int) = m * n := by
  have hs : m * n ≤ 1000 * 1000 := Int.mul_le_mul hm1 hn1 hn (by decide)
  have h0 := Int.mul_nonneg hm hn
  have w1 : wrap64 (m * n) = m * n := wrap_id (by omega) (by omega)
  obtain ⟨r, ⟨K, e⟩, hr⟩ := spec_grGrid.some_r m n own hm hm1 hn hn1 (by omega) _ 0 (List.replicate (m * n).toNat 0) rfl (by omega) (by simp; omega)
  refine ⟨r, K, ?_, hr⟩
  unfold spec_grGrid.f
  rw [w1, if_pos h0, if_pos (by omega)]
  exact e K (Nat.le_refl _)
theorem grid_any (m n : Int) (own : Bool) (w : World) (hm : 0 ≤ m) (hm1 : m ≤ 1000) (hn : 0 ≤ n) (hn1 : n ≤ 1000) : Calls Try.prog 68 #[.int .i64 m, .int .i64 n, .bool own] w fun e w' => ∃ (v : Value) (l : List Int), e = .returned (.agg #[v, .bool own]) ∧ (l.length : Int) = m * n ∧ Kd.R (Kd.int .i64) 3 w' w.heap.size (fun _ => True) v l ∧ Below w.heap.size w w' := by
  obtain ⟨r, k, e, hr⟩ := spec_grGrid.some m n own hm hm1 hn hn1
  exact (spec_grGrid.calls k m n own r own w e).mono fun _ _ ⟨v, he, h1, h2⟩ => ⟨v, r, he, hr, h1, h2⟩
theorem Cur.kept {S : Nat → Prop} (h : Cur w0 g a w) (hb : Below w0.heap.size w0 w1) (hk : Kept w w1 S) (hne : ¬ S g) : Cur w0 g a w1 := by
  obtain ⟨l, s1, s2, h, h0, h1, h2, h3⟩ := h
  exact ⟨l, s1, s2, h.kept hk hne, h0, h1, hb, h3⟩
def Lies (W : World) (base r n cap : Nat) (l : List Int) : Prop := l.length = n ∧ Kd.R (Kd.int .i64) 3 W base (fun k => k = r) (.slice (some ⟨r, 0, none⟩) n cap) l
theorem add_any {r n cap : Nat} {l : List Int} (own : Bool) (i j : Int) (hb : Below w0.heap.size w0 w) (h : Lies w w0.heap.size r n cap l) (hi : 0 ≤ i) (hi1 : i < n) (hj : 0 ≤ j) (hj1 : j < n) : Calls Try.prog 59 #[.agg #[.slice (some ⟨r, 0, none⟩) n cap, .bool own], .int .i64 i, .int .i64 j] w fun e w' => ∃ l', e = .returned (.tuple #[]) ∧ Lies w' w0.heap.size r n cap l' ∧ Below w0.heap.size w0 w' ∧ Kept w w' (fun k => k = r) := by
  obtain ⟨hl, hr⟩ := h
  obtain ⟨l', e, hl'⟩ := spec_grAdd.some l own i j hi (by omega) hj (by omega)
  refine (spec_grAdd.calls (fun k => k = r) _ l own i j l' w0 w hb hr e).mono ?_
  rintro e' w' ⟨he, h1, h2, h3⟩
  exact ⟨l', he, ⟨by omega, Kd.R_mono (Kd.R_tight rfl h1) (fun k hk => by simpa [Value.ownBlock] using hk)⟩, h2, h3⟩
theorem Lies.of {W : World} {base : Nat} {v : Value} {l : List Int} (h : Kd.R (Kd.int .i64) 3 W base (fun _ => True) v l) (hl : 0 < l.length) : ∃ r cap, v = .slice (some ⟨r, 0, none⟩) l.length cap ∧ base ≤ r ∧ r < W.heap.size ∧ Lies W base r l.length cap l := by
  obtain ⟨r, cap, rfl, hb, hlt, _⟩ := Kd.R_form h hl
  exact ⟨r, cap, rfl, hb, hlt, rfl, Kd.R_mono (Kd.R_tight rfl h) (fun k hk => by simpa [Value.ownBlock] using hk)⟩
theorem Lies.put2 {W : World} {base base2 b r n cap : Nat} {u x : Value} {l : List Int} (h : Lies W base r n cap l) (hb : b ≠ r) (hr : base2 ≤ r) : Kd.R (Kd.int .i64) 3 ((W.setCell ⟨b, 0, none⟩ u).setCell ⟨b, 1, none⟩ x) base2 (fun _ => True) (.slice (some ⟨r, 0, none⟩) n cap) l := by
  have h1 := Kd.R_far (p := ⟨b, 1, none⟩) (Kd.R_far (p := ⟨b, 0, none⟩) h.2 (fun k (e : k = r) => by simp only; omega) u) (fun k (e : k = r) => by simp only; omega) x
  exact Kd.R_mono (Kd.R_raise (b := base) (b' := base2) (d := Kd.int .i64) (fun _ _ _ _ h => h) h1 (fun k hk => by simp only [Value.ownBlock, Option.some.injEq] at hk; omega)) (fun _ _ => trivial)
theorem Lies.lower {W : World} {base b r n cap : Nat} {l : List Int} (h : Lies W base r n cap l) (hb : b ≤ base) : Lies W b r n cap l := ⟨h.1, Kd.R_lower h.2 hb⟩
theorem Lies.keep {W W1 : World} {base r n cap : Nat} {l : List Int} (h : Lies W base r n cap l) (hk : KeepBut W W1 g none) (hne : r ≠ g) : Lies W1 base r n cap l := ⟨h.1, Kd.R_keep h.2 hk (fun k e => by rw [e]; exact hne)⟩
theorem Lies.below {W W1 : World} {base r n cap : Nat} {l : List Int} (h : Lies W base r n cap l) (hb : Below W.heap.size W W1) : Lies W1 base r n cap l := ⟨h.1, Kd.R_below h.2 hb⟩
theorem most_any (a b : Int) (w : World) : Calls Try.prog 67 #[.int .i64 a, .int .i64 b] w fun e w' => ∃ (v : Int) (n : Nat), e = .returned (.int .i64 v) ∧ a ≤ v ∧ b ≤ v ∧ Aside0 (v = a ∨ v = b) ∧ w' = w.drewN n := by
  by_cases h : a > b
  · exact (spec_l1Most.calls a b a w (by unfold spec_l1Most.f; rw [if_pos h])).mono fun _ _ ⟨he, n, hn⟩ => ⟨a, n, he, by omega, by omega, ⟨by omega⟩, hn⟩
  · exact (spec_l1Most.calls a b b w (by unfold spec_l1Most.f; rw [if_neg h])).mono fun _ _ ⟨he, n, hn⟩ => ⟨b, n, he, by omega, by omega, ⟨by omega⟩, hn⟩
theorem put2_blk {W : World} {b : Nat} {T : TypeId} {x y : Value} (h : W.heap[b]? = some (.cells #[x, y] T (0, 0))) (u v : Value) : ((W.setCell ⟨b, 0, none⟩ u).setCell ⟨b, 1, none⟩ v).heap[b]? = some (.cells #[u, v] T (0, 0)) :=
  blk_put (cs := #[u, y]) (blk_put (cs := #[x, y]) h 0 u rfl) 1 v rfl
theorem Kd.R_put2 {W : World} {base b : Nat} {ok : Nat → Prop} {v u x : Value} {l : List Int} (h : Kd.R (Kd.int .i64) 3 W base ok v l) (hb : b < base) : Kd.R (Kd.int .i64) 3 ((W.setCell ⟨b, 0, none⟩ u).setCell ⟨b, 1, none⟩ x) base ok v l :=
  Kd.R_mono (Kd.R_far (p := ⟨b, 1, none⟩) (Kd.R_far (p := ⟨b, 0, none⟩) (Kd.R_bound h) (fun k hk => by have := hk.2.1; simp only; omega) u) (fun k hk => by have := hk.2.1; simp only; omega) x) (fun k hk => hk.1)
theorem Cur.put2 (h : Cur w0 g a w) {b : Nat} (hb : w0.heap.size ≤ b) (hne : b ≠ g) (u v : Value) : Cur w0 g a ((w.setCell ⟨b, 0, none⟩ u).setCell ⟨b, 1, none⟩ v) := (h.far hb hne u).far (p := ⟨b, 1, none⟩) hb hne v
theorem keep_put2 {row : Option Nat} (h : KeepBut w W g row) {b : Nat} (hb : w.heap.size ≤ b) (u v : Value) : KeepBut w ((W.setCell ⟨b, 0, none⟩ u).setCell ⟨b, 1, none⟩ v) g row := keep_far (keep_far h hb u) (p := ⟨b, 1, none⟩) hb v
def SureP (w0 w : World) (g : Nat) (a n : Int) (e : Ending) (w' : World) : Prop := ∃ (v : Value) (l : List Int) (own : Bool), e = .returned (.agg #[v, .bool own]) ∧ Kd.R (Kd.int .i64) 3 w' w.heap.size (fun _ => True) v l ∧ 1 ≤ l.length ∧ (l.length ≤ 16 ∧ ((l.length : Int) ≤ n ∨ l.length ≤ 3)) ∧ Cur w0 g a w' ∧ KeepBut w w' g none
set_option maxRecDepth 100000 in
set_option maxHeartbeats 4000000 in
theorem sure_any (n : Int) (w : World) (hc : Cur w0 g a w) (ha : a ≤ 576460752303423488) (hn : 1 ≤ n) (hn1 : n ≤ 16) : Calls Try.prog 55 #[.pointer (some ⟨g, 0, none⟩), .int .i64 n] w (SureP w0 w g (a + 400) n) := by
  have hu := Try.underlying26
  have hgl := hc.lt
  have hne : w.heap.size ≠ g := by omega
  have hsz := hc.size
  have HC := Aside0.mk (hc.alloc (.cells #[.slice none 0 0, .bool false] 26))
  have HK := Aside0.mk (keep_alloc (KeepBut.refl w g none) (.cells #[.slice none 0 0, .bool false] 26))
  have HX := Aside0.mk (blk_new w (.cells #[.slice none 0 0, .bool false] 26))
  clear hc
  go_enter Try.func55, Try.ntmps55
  go_upto_region 3 with (first
    | (go_at_call 36; (with_reducible refine (one_any 3 _ HC.out (by omega)).mono ?_); rintro e w1 ⟨b, rfl, hc, hk⟩; have nC := Aside0.mk hc; have nK := Aside0.mk (HK.out.trans hk (.inl rfl)); have nHX := Aside0.mk (hk.blk HX.out hne (by simp)); clear hc hk HC HK HX; have HC := nC; have HK := nK; clear nC nK; have HX := nHX; clear nHX)
    | (go_at_call 38; (with_reducible refine (pick_any 5 _ HC.out (by omega)).mono ?_); rintro e w2 ⟨t, rfl, ht0, ht1, ht, hc, hk⟩; have nC := Aside0.mk hc; have nK := Aside0.mk (HK.out.trans hk (.inl rfl)); have nHX := Aside0.mk (hk.blk HX.out hne (by simp)); clear hc hk HC HK HX; have HC := nC; have HK := nK; clear nC nK; have HX := nHX; clear nHX))
  by_cases e0 : t = 0
  · subst e0
    go_wp2_with (first
      | (go_at_call 38; (with_reducible refine (pick_any n _ HC.out (by omega)).mono ?_); rintro e w3 ⟨v, rfl, hv0, hv1, hv, hc, hk⟩; have nC := Aside0.mk hc; have nK := Aside0.mk (HK.out.trans hk (.inl rfl)); have nHX := Aside0.mk (hk.blk HX.out hne (by simp)); clear hc hk HC HK HX; have HC := nC; have HK := nK; clear nC nK; have HX := nHX; clear nHX)
      | (go_at_call 56; (with_reducible refine (path_any (1 + v) _ _ (by omega) (by omega)).mono ?_); rintro e w4 ⟨z, l, rfl, hl, hr, hb⟩; obtain ⟨Az, cz, rfl⟩ := Kd.R_slice hr; have hz := blk_lt HX.out; have nC := Aside0.mk (HC.out.below hb); have nK := Aside0.mk (HK.out.trans (KeepBut.of_below hb g none) (.inl rfl)); have nZ := Aside0.mk hr; have nHX := Aside0.mk (blk_below HX.out hb); clear hr hb HC HK HX; have HC := nC; have HK := nK; have HR := nZ; clear nC nK nZ; have HX := nHX; clear nHX; have hHX0 := blk_cell HX.out 0; have hHX1 := blk_cell HX.out 1; have gHX0 := blk_frozen HX.out 0; have gHX1 := blk_frozen HX.out 1))
    refine bodyPost_ret (results_cell_row rfl _ _ w.heap.size 26 _ (0, 0) _ rfl (put2_blk HX.out _ _) Try.underlying26 rfl (by kernel_rfl)) rfl ?_
    have hv := hv.out
    exact ⟨_, l, _, rfl, Kd.R_lower (Kd.R_put2 HR.out (by omega)) (by omega), by omega, by omega, (HC.out.le (by omega)).put2 hsz hne _ _, keep_put2 HK.out (Nat.le_refl _) _ _⟩
  have e0b : (t == 0) = false := by simpa using e0
  by_cases e1 : t = 1
  · subst e1
    go_wp2_with (first
      | (go_at_call 67; (with_reducible refine (most_any _ _ _).mono ?_); rintro e w5 ⟨m, nm, rfl, hm0, hm1, hm, rfl⟩; have nC := Aside0.mk (HC.out.drewN nm); have nK := Aside0.mk (keep_drewN HK.out nm); have nX := Aside0.mk (blk_drewN HX.out nm); clear HC HK HX; have HC := nC; have HK := nK; have HX := nX; clear nC nK nX)
      | (go_at_call 38; (with_reducible refine (pick_any m _ HC.out (by omega)).mono ?_); rintro e w3 ⟨v, rfl, hv0, hv1, hv, hc, hk⟩; have nC := Aside0.mk hc; have nK := Aside0.mk (HK.out.trans hk (.inl rfl)); have nHX := Aside0.mk (hk.blk HX.out hne (by simp)); clear hc hk HC HK HX; have HC := nC; have HK := nK; clear nC nK; have HX := nHX; clear nHX)
      | (go_at_call 37; (with_reducible refine (circle_any (3 + v) _ _ (by omega) (by omega)).mono ?_); rintro e w4 ⟨z, l, rfl, hl, hr, hb⟩; obtain ⟨Az, cz, rfl⟩ := Kd.R_slice hr; have hz := blk_lt HX.out; have nC := Aside0.mk (HC.out.below hb); have nK := Aside0.mk (HK.out.trans (KeepBut.of_below hb g none) (.inl rfl)); have nZ := Aside0.mk hr; have nHX := Aside0.mk (blk_below HX.out hb); clear hr hb HC HK HX; have HC := nC; have HK := nK; have HR := nZ; clear nC nK nZ; have HX := nHX; clear nHX; have hHX0 := blk_cell HX.out 0; have hHX1 := blk_cell HX.out 1; have gHX0 := blk_frozen HX.out 0; have gHX1 := blk_frozen HX.out 1))
    refine bodyPost_ret (results_cell_row rfl _ _ w.heap.size 26 _ (0, 0) _ rfl (put2_blk HX.out _ _) Try.underlying26 rfl (by kernel_rfl)) rfl ?_
    have hv := hv.out
    have hm := hm.out
    exact ⟨_, l, _, rfl, Kd.R_lower (Kd.R_put2 HR.out (by omega)) (by omega), by omega, by omega, (HC.out.le (by omega)).put2 hsz hne _ _, keep_put2 HK.out (Nat.le_refl _) _ _⟩
  have e1b : (t == 1) = false := by simpa using e1
  by_cases e2 : t = 2
  · subst e2
    go_upto_region 10 with (go_at_call 38; (with_reducible refine (pick_any 3 _ HC.out (by omega)).mono ?_); rintro e w3 ⟨v, rfl, hv0, hv1, hv, hc, hk⟩; have nC := Aside0.mk hc; have nK := Aside0.mk (HK.out.trans hk (.inl rfl)); have nHX := Aside0.mk (hk.blk HX.out hne (by simp)); clear hc hk HC HK HX; have HC := nC; have HK := nK; clear nC nK; have HX := nHX; clear nHX)
    have hv := hv.out
    have hd : n / (1 + v) ≤ n := Int.ediv_le_self _ (by omega)
    go_wp2_with (first
      | (go_at_call 67; (with_reducible refine (most_any _ _ _).mono ?_); rintro e w5 ⟨m, nm, rfl, hm0, hm1, hm, rfl⟩; have nC := Aside0.mk (HC.out.drewN nm); have nK := Aside0.mk (keep_drewN HK.out nm); have nX := Aside0.mk (blk_drewN HX.out nm); clear HC HK HX; have HC := nC; have HK := nK; have HX := nX; clear nC nK nX)
      | (go_at_call 38; (with_reducible refine (pick_any m _ HC.out (by omega)).mono ?_); rintro e w6 ⟨q, rfl, hq0, hq1, hq, hc, hk⟩; have hqm : q ≤ 16 := (by have h1 := hq.out; have h2 := hm.out; omega); have nC := Aside0.mk hc; have nK := Aside0.mk (HK.out.trans hk (.inl rfl)); have nHX := Aside0.mk (hk.blk HX.out hne (by simp)); clear hc hk HC HK HX; have HC := nC; have HK := nK; clear nC nK; have HX := nHX; clear nHX)
      | (go_at_call 68; (with_reducible refine (grid_any (1 + v) (1 + q) _ _ (by omega) (by omega) (by omega) (by omega)).mono ?_); rintro e w4 ⟨z, l, rfl, hl, hr, hb⟩; obtain ⟨Az, cz, rfl⟩ := Kd.R_slice hr; have hz := blk_lt HX.out; have nC := Aside0.mk (HC.out.below hb); have nK := Aside0.mk (HK.out.trans (KeepBut.of_below hb g none) (.inl rfl)); have nZ := Aside0.mk hr; have nHX := Aside0.mk (blk_below HX.out hb); clear hr hb HC HK HX; have HC := nC; have HK := nK; have HR := nZ; clear nC nK nZ; have HX := nHX; clear nHX; have hHX0 := blk_cell HX.out 0; have hHX1 := blk_cell HX.out 1; have gHX0 := blk_frozen HX.out 0; have gHX1 := blk_frozen HX.out 1))
    have hlen : 1 ≤ l.length ∧ (l.length ≤ 16 ∧ ((l.length : Int) ≤ n ∨ l.length ≤ 3)) := by
      have hq := hq.out
      have hm := hm.out
      have h3 : v = 0 ∨ v = 1 ∨ v = 2 := by omega
      clear HC HK HX HR
      rcases h3 with rfl | rfl | rfl <;> simp only [Int.add_zero, Int.reduceAdd] at * <;> omega
    refine bodyPost_ret (results_cell_row rfl _ _ w.heap.size 26 _ (0, 0) _ rfl (put2_blk HX.out _ _) Try.underlying26 rfl (by kernel_rfl)) rfl ?_
    exact ⟨_, l, _, rfl, Kd.R_lower (Kd.R_put2 HR.out (by omega)) (by omega), hlen.1, hlen.2, (HC.out.le (by omega)).put2 hsz hne _ _, keep_put2 HK.out (Nat.le_refl _) _ _⟩
  have e2b : (t == 2) = false := by simpa using e2
  go_upto_region 12 with (first
    | (go_at_call 38; (with_reducible refine (pick_any n _ HC.out (by omega)).mono ?_); rintro e w3 ⟨v, rfl, hv0, hv1, hv, hc, hk⟩; have nC := Aside0.mk hc; have nK := Aside0.mk (HK.out.trans hk (.inl rfl)); have nHX := Aside0.mk (hk.blk HX.out hne (by simp)); clear hc hk HC HK HX; have HC := nC; have HK := nK; clear nC nK; have HX := nHX; clear nHX)
    | ((with_reducible refine gate_dst (N := 55) rfl ?_); refine Kd.R_make (Kd.int .i64) _ 3 rfl (N := 55) rfl 24 _ _ rfl (1 + v) rfl rfl Try.underlying24 (.int .i64 0) 8 info3 rfl (by decide) (by omega) 0 (ok := fun _ => True) (okp := fun _ => True) rfl (fun _ hk => hk) trivial (by omega) (by omega) (Below.refl _ _) (Nat.le_refl _) ?_; intro z w7 hr hb _ _; obtain ⟨l0, hl0⟩ : ∃ l0 : List Int, l0 = List.replicate (1 + v).toNat 0 := ⟨_, rfl⟩; rw [← hl0] at hr; have hn0 : (l0.length : Int) = 1 + v := (by rw [hl0, List.length_replicate]; omega); obtain ⟨r, cap, rfl, hr1, hr2, hz⟩ := Lies.of hr (by omega); have hzx := blk_lt HX.out; have HZ := Aside0.mk (hz.lower (by omega : w0.heap.size ≤ _)); clear hz hl0; have nC := Aside0.mk (HC.out.below hb); have nK := Aside0.mk (HK.out.trans (KeepBut.of_below hb g none) (.inl rfl)); have nZ := Aside0.mk hr; have nHX := Aside0.mk (blk_below HX.out hb); clear hr hb HC HK HX; have HC := nC; have HK := nK; have HR := nZ; clear nC nK nZ; have HX := nHX; clear nHX; have hHX0 := blk_cell HX.out 0; have hHX1 := blk_cell HX.out 1; have gHX0 := blk_frozen HX.out 0; have gHX1 := blk_frozen HX.out 1))
  have hrg : r ≠ g := by omega
  have hy := HC.out.lt
  have hyg : w7.heap.size ≠ g := by omega
  clear hHX0 hHX1 gHX0 gHX1 HR
  have HN := Aside0.mk hn0
  clear hn0
  go_upto_region 13 with (go_at_call 38; (with_reducible refine (pick_any (2 * (1 + v) + 1) _ (HC.out.alloc _) (by omega)).mono ?_); rintro e w8 ⟨q, rfl, hq0, hq1, hq, hc, hk⟩; have nY := Aside0.mk (hk.blk (blk_new w7 _) hyg (by simp)); have nZ := Aside0.mk ((HZ.out.below (below_alloc (Below.refl _ _) _)).keep hk hrg); have nX := Aside0.mk (hk.blk (blk_alloc HX.out _) hne (by simp)); have nC := Aside0.mk hc; have nK := Aside0.mk ((keep_alloc HK.out _).trans hk (.inl rfl)); clear HC HK HX HZ hc hk; have HC := nC; have HK := nK; have HX := nX; have HY := nY; have HZ := nZ; clear nC nK nX nY nZ)
  go_loopw [9] (fun v9 wr => ∃ (k : Int) (l : List Int), v9 = .int .i64 k ∧ 0 ≤ k ∧ k ≤ 40 ∧ Aside0 (Cur w0 g (a + 400 - 4 * k) wr) ∧ Aside0 (KeepBut w wr g none) ∧ Aside0 (wr.heap[w.heap.size]? = some (.cells #[.slice none 0 0, .bool false] 26 (0, 0))) ∧ Aside0 (wr.heap[w7.heap.size]? = some (.cells #[.slice (some ⟨r, 0, none⟩) l0.length cap, .bool !b] 26 (0, 0))) ∧ Aside0 (Lies wr w0.heap.size r l0.length cap l)) (fun v9 _ => (intOf v9).toNat)
  case atStart =>
    have hv := hv.out
    have hq := hq.out
    exact ⟨q, l0, rfl, hq0, by omega, ⟨HC.out.le (by omega)⟩, HK, HX, HY, HZ⟩
  case round =>
    clear HC HK HX HY HZ
    obtain ⟨k, l, rfl, hk0, hk1, HC, HK, HX, HY, HZ⟩ := hrel
    have hn1 : (1 : Int) ≤ 1 + v := by omega
    have cells := HY.out
    have hY0 := blk_cell cells 0
    have hY1 := blk_cell cells 1
    clear cells
    by_cases hk : 0 < k ∧ 1 < 1 + v
    · obtain ⟨hk2, hv2⟩ := hk
      have tok1 : True := trivial
      go_wp2_with (first
        | (go_at_call 38; have tk_ := tok1; (with_reducible refine (pick_any _ _ HC.out (by omega)).mono ?_); rintro e w9 ⟨i, rfl, hi0, hi1, hi, hc, hkk⟩; clear tok1 tk_; have nC := Aside0.mk hc; have nK := Aside0.mk (HK.out.trans hkk (.inl rfl)); have nX := Aside0.mk (hkk.blk HX.out hne (by simp)); have nY := Aside0.mk (hkk.blk HY.out hyg (by simp)); have nZ := Aside0.mk (HZ.out.keep hkk hrg); clear HC HK HX HY HZ hc hkk hY0 hY1; have HC := nC; have HK := nK; have HX := nX; have HY := nY; have HZ := nZ; clear nC nK nX nY nZ)
        | (go_at_call 38; (with_reducible refine (pick_any _ _ HC.out (by omega)).mono ?_); rintro e w10 ⟨j, rfl, hj0, hj1, hj, hc, hkk⟩; have nC := Aside0.mk hc; have nK := Aside0.mk (HK.out.trans hkk (.inl rfl)); have nX := Aside0.mk (hkk.blk HX.out hne (by simp)); have nY := Aside0.mk (hkk.blk HY.out hyg (by simp)); have nZ := Aside0.mk (HZ.out.keep hkk hrg); clear HC HK HX HY HZ hc hkk; have HC := nC; have HK := nK; have HX := nX; have HY := nY; have HZ := nZ; clear nC nK nX nY nZ; have hY0 := blk_cell HY.out 0; have hY1 := blk_cell HY.out 1)
        | (go_at_call 59; (with_reducible refine (add_any _ i _ HC.out.base HZ.out hi0 (by have h1 := hi.out; have h2 := HN.out; omega) (Int.emod_nonneg _ (by omega)) (by have h2 := HN.out; rw [h2]; exact Int.emod_lt_of_pos _ (by omega))).mono ?_); rintro e w11 ⟨l2, rfl, hz, hb, hkp⟩; have nC := Aside0.mk (HC.out.kept hb hkp (fun e : g = r => hrg e.symm)); have nK := Aside0.mk (Kept.keep HK.out hkp (fun x (e : x = r) => by omega)); have nX := Aside0.mk (blk_kept HX.out hkp (fun e : w.heap.size = r => by omega)); have nY := Aside0.mk (blk_kept HY.out hkp (fun e : w7.heap.size = r => by omega)); have nZ := Aside0.mk hz; clear HC HK HX HY HZ hb hkp hz hY0 hY1; have HC := nC; have HK := nK; have HX := nX; have HY := nY; have HZ := nZ; clear nC nK nX nY nZ))
      go_roundw
      case rel => exact ⟨k - 1, l2, rfl, by omega, by omega, ⟨HC.out.le (by omega)⟩, HK, HX, HY, HZ⟩
      case measure => simp [intOf]; omega
    · have hX0 := blk_cell HX.out 0
      have hX1 := blk_cell HX.out 1
      have gX0 := blk_frozen HX.out 0
      have gX1 := blk_frozen HX.out 1
      have hl := HZ.out.1
      have hN := HN.out
      have hv := hv.out
      have hrw : w.heap.size < r := by omega
      have hfin := Aside0.mk (HZ.out.put2 (b := w.heap.size) (u := .slice (some ⟨r, 0, none⟩) l0.length cap) (x := .bool !b) (by omega) (by omega : w.heap.size ≤ r))
      have HL := Aside0.mk (show (l.length : Int) = 1 + v by omega)
      clear hl hN
      by_cases hk2 : 0 < k
      · have hv2 : ¬ 1 < 1 + v := fun h => hk ⟨hk2, h⟩
        clear hk
        go_wp2
        refine bodyPost_ret (results_cell_row rfl _ _ w.heap.size 26 _ (0, 0) _ rfl (put2_blk HX.out _ _) Try.underlying26 rfl (by kernel_rfl)) rfl ?_
        have hl := HL.out
        exact ⟨_, l, _, rfl, hfin.out, by omega, by omega, (HC.out.le (by omega)).put2 hsz hne _ _, keep_put2 HK.out (Nat.le_refl _) _ _⟩
      · go_wp2
        refine bodyPost_ret (results_cell_row rfl _ _ w.heap.size 26 _ (0, 0) _ rfl (put2_blk HX.out _ _) Try.underlying26 rfl (by kernel_rfl)) rfl ?_
        have hl := HL.out
        exact ⟨_, l, _, rfl, hfin.out, by omega, by omega, (HC.out.le (by omega)).put2 hsz hne _ _, keep_put2 HK.out (Nat.le_refl _) _ _⟩
theorem C_lit (W : World) (l : List Int) (hl : l.length ≤ 1000) : Kd.C (Kd.int .i64) (W.alloc (.cells (l.map (Value.int .i64)).toArray 3)) (some ⟨W.heap.size, 0, none⟩) l.length l := by
  refine Kd.C_of_reads (d := (0 : Int)) (h1 := fun _ => rfl) ⟨rfl, by omega, fun _ => ⟨_, rfl, fun j hj => ?_⟩⟩
  have h := blk_cell (blk_new W (.cells (l.map (Value.int .i64)).toArray 3)) j
  have e : (⟨W.heap.size, 0, none⟩ : Addr).add j = ⟨W.heap.size, j, none⟩ := by
    simp [Addr.add]
    omega
  rw [e, h]
  simp [List.getD_eq_getElem?_getD, List.getElem?_eq_getElem hj]
def Apart (w : World) (g : Nat) (A : Option Addr) (l : List Int) : Prop := Kd.C (Kd.int .i64) w A l.length l ∧ ∀ ad, A = some ad → 0 < l.length → ad.block ≠ g
theorem among_any {A : Option Addr} {c : Nat} {l : List Int} (w : World) (hc : Cur w0 g a w) (ha : a ≤ 1152921504606846976) (h : Apart w g A l) (hl : 0 < l.length) (hcl : l.length ≤ c) : Calls Try.prog 43 #[.pointer (some ⟨g, 0, none⟩), .slice A l.length c] w fun e w' => ∃ v : Int, e = .returned (.int .i64 v) ∧ Aside0 (v ∈ l) ∧ Cur w0 g (a + 2) w' ∧ KeepBut w w' g none := by
  obtain ⟨m, s1, s2, hi, h0, h1, hb, hm⟩ := hc
  obtain ⟨v, s3, s4, e, hv, hv1, hn, h3, h4⟩ := spec_l1Cur_pick.some m s1 s2 (l.length : Int) h0 (by omega) hm
  refine (spec_l1Cur_among.calls g m s1 s2 A c l (rd l v) s3 s4 w0 w hi hb h.1 hcl h.2 (by unfold spec_l1Cur_among.f; rw [e, Option.bind_some, if_pos hv, if_pos (by omega)])).mono ?_
  rintro e' w' ⟨he, hI, hB, hK⟩
  exact ⟨_, he, ⟨rd_mem l v hv (by omega)⟩, ⟨m, s3, s4, hI, by omega, by omega, hB, hm⟩, hK⟩
theorem among_lit {b k : Nat} {l : List Int} (w : World) (hc : Cur w0 g a w) (ha : a ≤ 1152921504606846976) (h : Kd.C (Kd.int .i64) w (some ⟨b, 0, none⟩) l.length l) (hg : b ≠ g) (hk : l.length = k) (hl : 0 < k) : Calls Try.prog 43 #[.pointer (some ⟨g, 0, none⟩), .slice (some ⟨b, 0, none⟩) k k] w fun e w' => ∃ v : Int, e = .returned (.int .i64 v) ∧ Aside0 (v ∈ l) ∧ Cur w0 g (a + 2) w' ∧ KeepBut w w' g none := by
  subst hk
  exact among_any w hc ha ⟨h, fun ad e _ => by injection e with e; rw [← e]; exact hg⟩ hl (Nat.le_refl _)
theorem least_any (a b : Int) (w : World) : Calls Try.prog 63 #[.int .i64 a, .int .i64 b] w fun e w' => ∃ (v : Int) (n : Nat), e = .returned (.int .i64 v) ∧ v ≤ a ∧ v ≤ b ∧ Aside0 (v = a ∨ v = b) ∧ w' = w.drewN n := by
  by_cases h : a < b
  · exact (spec_l1Least.calls a b a w (by unfold spec_l1Least.f; rw [if_pos h])).mono fun _ _ ⟨he, n, hn⟩ => ⟨a, n, he, by omega, by omega, ⟨by omega⟩, hn⟩
  · exact (spec_l1Least.calls a b b w (by unfold spec_l1Least.f; rw [if_neg h])).mono fun _ _ ⟨he, n, hn⟩ => ⟨b, n, he, by omega, by omega, ⟨by omega⟩, hn⟩
def SetP (w0 w : World) (g : Nat) (a : Int) (e : Ending) (w' : World) : Prop := ∃ v : Int, e = .returned (.int .i64 v) ∧ Cur w0 g a w' ∧ KeepBut w w' g none
set_option maxRecDepth 100000 in
set_option maxHeartbeats 4000000 in
theorem set_any {A : Option Addr} {c : Nat} {l : List Int} (own : Bool) (w : World) (hc : Cur w0 g a w) (ha : a ≤ 576460752303423488) (hl : (l.length : Int) ≤ 9223372036854775807) : Calls Try.prog 48 #[.pointer (some ⟨g, 0, none⟩), .agg #[.slice A l.length c, .bool own]] w (SetP w0 w g (a + 8)) := by
  have hu := Try.underlying26
  have hgl := hc.lt
  have HC := Aside0.mk (hc.alloc (.cells #[.slice A l.length c, .bool own] 26))
  have HK := Aside0.mk (keep_alloc (KeepBut.refl w g none) (.cells #[.slice A l.length c, .bool own] 26))
  have tok1 : True := trivial
  clear hc
  go_enter Try.func48, Try.ntmps48
  go_upto_region 3 with (first
    | (go_at_call 63; (with_reducible refine (least_any _ _ _).mono ?_); rintro e w1 ⟨n, nd, rfl, hn0, hn1, hn, rfl⟩; have nC := Aside0.mk (HC.out.drewN nd); have nK := Aside0.mk (keep_drewN HK.out nd); clear HC HK; have HC := nC; have HK := nK; clear nC nK; have hn2 : 0 ≤ n := (by have h := hn.out; omega))
    | (go_at_call 36; (with_reducible refine (one_any _ _ HC.out (by omega)).mono ?_); rintro e w2 ⟨b, rfl, hc, hk⟩; have nC := Aside0.mk hc; have nK := Aside0.mk (HK.out.trans hk (.inl rfl)); clear hc hk HC HK ; have HC := nC; have HK := nK; clear nC nK))
  · have hg2 := HC.out.lt
    go_region_with (go_at_call 43; (refine (among_lit _ ((HC.out.alloc _).drew) (by omega) (Kd.C_drew (C_lit _ [_, _, _, _, _] (by simp))) (by omega) rfl (by simp)).mono ?_); rintro e w3 ⟨v, rfl, hv, hc, hk⟩; have nK := Aside0.mk ((keep_drew (keep_alloc HK.out _)).trans hk (.inl rfl)); clear HC HK; have HC := Aside0.mk hc; have HK := nK; clear hc hk nK)
    go_wp2
    go_ret
    exact ⟨_, rfl, HC.out.le (by omega), HK.out⟩
  · obtain ⟨p, hp, hp0⟩ : ∃ p : Int, IntKind.i64.wrap (2 ^ n.toNat) = p ∧ 0 < p := ⟨_, rfl, by
      have h1 : (2 : Int) ^ n.toNat = ((2 ^ n.toNat : Nat) : Int) := by simp
      have h2 : (2 : Nat) ^ n.toNat ≤ 2 ^ 16 := Nat.pow_le_pow_right (by decide) (by omega)
      have h3 := Nat.two_pow_pos n.toNat
      rw [h1, IntKind.wrap_i64]
      omega⟩
    have hp1 : (p == 0) = false := by simp; omega
    go_region_with (first
      | (go_at_call 38; have tk_ := tok1; (with_reducible refine (pick_any _ _ HC.out.drew (by omega)).mono ?_); rintro e w3 ⟨v, rfl, hv0, hv1, hv, hc, hk⟩; clear tok1 tk_; have nK := Aside0.mk ((keep_drew HK.out).trans hk (.inl rfl)); clear HC HK; have HC := Aside0.mk hc; have HK := nK; clear hc hk nK)
      | (go_at_call 38; (with_reducible refine (pick_any _ _ HC.out (by omega)).mono ?_); rintro e w4 ⟨u, rfl, hu0, hu1, hu, hc, hk⟩; have nK := Aside0.mk (HK.out.trans hk (.inl rfl)); clear HC HK; have HC := Aside0.mk hc; have HK := nK; clear hc hk nK))
    go_wp2
    go_ret
    exact ⟨_, rfl, HC.out.le (by omega), HK.out⟩
theorem Lies.cell {W : World} {base r n cap : Nat} {l : List Int} (h : Lies W base r n cap l) (i : Int) (h0 : 0 ≤ i) (h1 : i < n) : W.cell? ⟨r, i.toNat, none⟩ = some (.int .i64 (rd l i)) ∧ W.frozen? ⟨r, i.toNat, none⟩ = false := Kd.R_celln 0 h.2 i h0 h1
theorem Lies.set {W : World} {base r n cap : Nat} {l : List Int} (h : Lies W base r n cap l) (i x : Int) : Lies (W.setCell ⟨r, i.toNat, none⟩ (.int .i64 x)) base r n cap (l.set i.toNat x) := ⟨by simp [h.1], Kd.R_putn h.2 i x⟩
theorem cell_far2 {W : World} {p q : Addr} {u v : Value} (h : W.cell? q = some v) (hne : q.block ≠ p.block) : (W.setCell p u).cell? q = some v := (World.cell?_of_block (Below.heap_setCell W p u q.block hne)).trans h
theorem Cur.low (h : Cur w0 g a w) {B : Nat} (hb : Below B w w1) (hg : g < B) (h0 : w0.heap.size ≤ B) : Cur w0 g a w1 := by
  obtain ⟨l, s1, s2, ⟨A0, c0, hs, hs1, hs2⟩, k0, k1, k2, k3⟩ := h
  exact ⟨l, s1, s2, ⟨A0, c0, (hb.block g hg).trans hs, hs1, hs2⟩, k0, k1, k2.trans (hb.mono h0), k3⟩
theorem keep_low (h : KeepBut w W g none) {B : Nat} (hb : Below B W w1) (hB : w.heap.size ≤ B) : KeepBut w w1 g none := ⟨Nat.le_trans h.1 hb.size, fun i hi hg hr => (hb.block i (by omega)).trans (h.2 i hi hg hr)⟩
theorem blk_low {B b : Nat} {o : Obj} (h : w.heap[b]? = some o) (hb : Below B w w1) (hB : b < B) : w1.heap[b]? = some o := (hb.block b hB).trans h
def GraphP (w0 w : World) (g : Nat) (a n : Int) (e : Ending) (w' : World) : Prop := ∃ (v : Value) (l : List Int) (own : Bool), e = .returned (.agg #[v, .bool own]) ∧ Kd.R (Kd.int .i64) 3 w' w.heap.size (fun _ => True) v l ∧ (l.length ≤ 17 ∧ ((l.length : Int) ≤ n ∨ l.length ≤ 3 ∨ 16 ≤ l.length)) ∧ Cur w0 g a w' ∧ KeepBut w w' g none
set_option maxRecDepth 100000 in
set_option maxHeartbeats 8000000 in
theorem graph_any (n : Int) (w : World) (hc : Cur w0 g a w) (ha : a ≤ 288230376151711744) (hn : 1 ≤ n) (hn1 : n ≤ 16) : Calls Try.prog 33 #[.pointer (some ⟨g, 0, none⟩), .int .i64 n] w (GraphP w0 w g (a + 500) n) := by
  have hu := Try.underlying26
  have hgl := hc.lt
  have hne : w.heap.size ≠ g := by omega
  have hsz := hc.size
  have HC := Aside0.mk (hc.alloc (.cells #[.slice none 0 0, .bool false] 26))
  have HK := Aside0.mk (keep_alloc (KeepBut.refl w g none) (.cells #[.slice none 0 0, .bool false] 26))
  have HX := Aside0.mk (blk_new w (.cells #[.slice none 0 0, .bool false] 26))
  clear hc
  go_enter Try.func33, Try.ntmps33
  go_upto_region 3 with (first
    | (go_at_call 55; (with_reducible refine (sure_any n _ HC.out (by omega) hn hn1).mono ?_); rintro e w2 ⟨z, l, own, rfl, hr, hl1, hl2, hc, hk⟩; obtain ⟨r, cap, rfl, hr1, hr2, hz⟩ := Lies.of hr (by omega); have hzx := blk_lt HX.out; have HZ := Aside0.mk (hz.lower (by omega : w0.heap.size ≤ _)); clear hz hr; have nC := Aside0.mk hc; have nK := Aside0.mk (HK.out.trans hk (.inl rfl)); have nHX := Aside0.mk (hk.blk HX.out hne (by simp)); clear hc hk HC HK HX; have HC := nC; have HK := nK; clear nC nK; have HX := nHX; clear nHX)
    | (go_at_call 38; (with_reducible refine (pick_any _ _ (HC.out.alloc _) (by omega)).mono ?_); rintro e w3 ⟨t, rfl, ht0, ht1, ht, hc, hk⟩; have hrg : r ≠ g := (by omega); have hyl := HC.out.lt; have hyg : w2.heap.size ≠ g := (by omega); have nY := Aside0.mk (hk.blk (blk_new w2 _) hyg (by simp)); have nZ := Aside0.mk ((HZ.out.below (below_alloc (Below.refl _ _) _)).keep hk hrg); have nX := Aside0.mk (hk.blk (blk_alloc HX.out _) hne (by simp)); have nC := Aside0.mk hc; have nK := Aside0.mk ((keep_alloc HK.out _).trans hk (.inl rfl)); clear HC HK HX HZ hc hk; have HC := nC; have HK := nK; have HX := nX; have HY := nY; have HZ := nZ; clear nC nK nX nY nZ))
  have hl0 := HZ.out.1
  by_cases e0 : t = 0
  · subst e0
    have hY0 := (blk_cell HY.out 0).trans rfl
    go_wp2
    go_region_held3 (fun w' => w'.cell? ⟨w2.heap.size, 0, none⟩ = some (.slice (some ⟨r, 0, none⟩) l.length cap)) (first | assumption | (refine cell_far2 hY ?_; simp only; omega) | go_keep) (first
      | (go_at_call 43; have hl_ := HL; clear hl_; refine (among_lit _ HC.out (by omega) HL.out (by omega) rfl (by simp)).mono ?_; rintro e w5 ⟨x, rfl, hx, hc, hk⟩; have nY := Aside0.mk (hk.blk (HY.out) hyg (by simp)); have nZ := Aside0.mk ((HZ.out.below (Below.refl _ _)).keep hk hrg); have nX := Aside0.mk (hk.blk (HX.out) hne (by simp)); have nK := Aside0.mk ((HK.out.trans (KeepBut.of_below (Below.refl _ _) g none) (.inl rfl)).trans hk (.inl rfl)); clear HK HX HY HZ HC; have HC := Aside0.mk hc; have HK := nK; have HX := nX; have HY := nY; have HZ := nZ; clear nK nX nY nZ hc hk; have hY := (blk_cell HY.out 0).trans rfl; have hi5 : i < l.length := (by have h := hi.out; omega); obtain ⟨hcell, hfroz⟩ := HZ.out.cell i hi0 hi5)
      | (go_at_call 38; (with_reducible refine (pick_any _ _ HC.out.drew (by omega)).mono ?_); rintro e w4 ⟨i, rfl, hi0, hi1, hi, hc, hk⟩; have nY := Aside0.mk (hk.blk (blk_drew HY.out) hyg (by simp)); have nZ := Aside0.mk ((HZ.out.below (below_drew1 (Below.refl _ _))).keep hk hrg); have nX := Aside0.mk (hk.blk (blk_drew HX.out) hne (by simp)); have nK := Aside0.mk ((HK.out.trans (KeepBut.of_below (below_drew1 (Below.refl _ _)) g none) (.inl rfl)).trans hk (.inl rfl)); clear HK HX HY HZ HC; have HC := Aside0.mk hc; have HK := nK; have HX := nX; have HY := nY; have HZ := nZ; clear nK nX nY nZ hc hk; have hY := (blk_cell HY.out 0).trans rfl)
      | (go_at_call 43; refine (among_lit _ (HC.out.alloc _) (by omega) (C_lit _ [_, _, _, _, _, _] (by simp)) (by have h := HC.out.lt; omega) rfl (by simp)).mono ?_; rintro e w5 ⟨x, rfl, hx, hc, hk⟩; have nY := Aside0.mk (hk.blk (blk_alloc HY.out _) hyg (by simp)); have nZ := Aside0.mk ((HZ.out.below (below_alloc (Below.refl _ _) _)).keep hk hrg); have nX := Aside0.mk (hk.blk (blk_alloc HX.out _) hne (by simp)); have nK := Aside0.mk ((HK.out.trans (KeepBut.of_below (below_alloc (Below.refl _ _) _) g none) (.inl rfl)).trans hk (.inl rfl)); clear HK HX HY HZ HC; have HC := Aside0.mk hc; have HK := nK; have HX := nX; have HY := nY; have HZ := nZ; clear nK nX nY nZ hc hk; have hY := (blk_cell HY.out 0).trans rfl; have hi5 : i < l.length := (by have h := hi.out; omega); obtain ⟨hcell, hfroz⟩ := HZ.out.cell i hi0 hi5)
      | (go_at_call 38; (with_reducible refine (pick_any _ _ (HC.out.alloc _).drew (by omega)).mono ?_); rintro e w4 ⟨i, rfl, hi0, hi1, hi, hc, hk⟩; have hcl := HC.out.lt; have HL := Aside0.mk (Kd.C_keep 0 (Kd.C_drew (C_lit w3 ([-1, 1, 2, 3, 65536, 4611686018427387904] : List Int) (by simp))) hk (fun ad e _ => by injection e with e; rw [← e]; simp only; omega)); have nY := Aside0.mk (hk.blk (blk_drew (blk_alloc HY.out _)) hyg (by simp)); have nZ := Aside0.mk ((HZ.out.below (below_drew1 (below_alloc (Below.refl _ _) _))).keep hk hrg); have nX := Aside0.mk (hk.blk (blk_drew (blk_alloc HX.out _)) hne (by simp)); have nK := Aside0.mk ((HK.out.trans (KeepBut.of_below (below_drew1 (below_alloc (Below.refl _ _) _)) g none) (.inl rfl)).trans hk (.inl rfl)); clear HK HX HY HZ HC; have HC := Aside0.mk hc; have HK := nK; have HX := nX; have HY := nY; have HZ := nZ; clear nK nX nY nZ hc hk; have hY := (blk_cell HY.out 0).trans rfl))
    all_goals
      have nZ := Aside0.mk (HZ.out.set i x)
      have nC := Aside0.mk (HC.out.far (p := ⟨r, i.toNat, none⟩) (by simp only; omega) hrg (.int .i64 x))
      have nK := Aside0.mk (keep_far HK.out (p := ⟨r, i.toNat, none⟩) (by simp only; omega) (.int .i64 x))
      have nX := Aside0.mk (blk_far HX.out (p := ⟨r, i.toNat, none⟩) (by simp only; omega) (.int .i64 x))
      have nY := Aside0.mk (blk_far HY.out (p := ⟨r, i.toNat, none⟩) (by simp only; omega) (.int .i64 x))
      clear HZ HC HK HX HY hcell hfroz hY
      generalize w5.setCell ⟨r, i.toNat, none⟩ (.int .i64 x) = w6 at *
      have HZ := nZ
      have HC := nC
      have HK := nK
      have HX := nX
      have HY := nY
      clear nZ nC nK nX nY
      have hY0 := (blk_cell HY.out 0).trans rfl
      have hY1 := (blk_cell HY.out 1).trans rfl
      have fY0 := blk_frozen HY.out 0
      have fY1 := blk_frozen HY.out 1
      have hX0 := blk_cell HX.out 0
      have hX1 := blk_cell HX.out 1
      have fX0 := blk_frozen HX.out 0
      have fX1 := blk_frozen HX.out 1
      go_wp2
      refine bodyPost_ret (results_cell_row rfl _ _ w.heap.size 26 _ (0, 0) _ rfl (put2_blk HX.out _ _) Try.underlying26 rfl (by kernel_rfl)) rfl ?_
      exact ⟨_, _, _, rfl, HZ.out.put2 (by omega) (by omega), by simp; omega, (HC.out.le (by omega)).put2 hsz hne _ _, keep_put2 HK.out (Nat.le_refl _) _ _⟩
  have e0b : (t == 0) = false := by simpa using e0
  have hY0 := (blk_cell HY.out 0).trans rfl
  have hY1 := (blk_cell HY.out 1).trans rfl
  have fY0 := blk_frozen HY.out 0
  have fY1 := blk_frozen HY.out 1
  have hX0 := blk_cell HX.out 0
  have hX1 := blk_cell HX.out 1
  have fX0 := blk_frozen HX.out 0
  have fX1 := blk_frozen HX.out 1
  by_cases e1 : t = 1
  · subst e1
    go_wp2
    refine bodyPost_ret (results_cell_row rfl _ _ w.heap.size 26 _ (0, 0) _ rfl (put2_blk (blk_far HX.out (p := ⟨w2.heap.size, 0, none⟩) (by simp only; omega) _) _ _) Try.underlying26 rfl (by kernel_rfl)) rfl ?_
    exact ⟨_, [], _, rfl, Kd.R_nil _ _ _ _ _, by simp, ((HC.out.far (p := ⟨w2.heap.size, 0, none⟩) (by simp only; omega) hyg _).le (by omega)).put2 hsz hne _ _, keep_put2 (keep_far HK.out (p := ⟨w2.heap.size, 0, none⟩) (by simp only; omega) _) (Nat.le_refl _) _ _⟩
  have e1b : (t == 1) = false := by simpa using e1
  by_cases e2 : t = 2
  · subst e2
    go_upto_region 9 with (go_at_call 56; (with_reducible refine (path_any 16 _ _ (by omega) (by omega)).mono ?_); rintro e w4 ⟨z, l2, rfl, hl, hr, hb⟩; obtain ⟨Az, cz, rfl⟩ := Kd.R_slice hr; have hyz := blk_lt HY.out; have hB := Below.size hb; have nR := Aside0.mk hr; have nC := Aside0.mk (HC.out.below hb); have nK := Aside0.mk (HK.out.trans (KeepBut.of_below hb g none) (.inl rfl)); have nX := Aside0.mk (blk_below HX.out hb); have nY := Aside0.mk (blk_below HY.out hb); have nL := Aside0.mk hl; clear hr hb hl HC HK HX HY hY0 hY1 fY0 fY1 hX0 hX1 fX0 fX1; have HC := nC; have HK := nK; have HX := nX; have HY := nY; have HR := nR; have HL := nL; clear nC nK nX nY nR nL; have hY0 := (blk_cell HY.out 0).trans rfl; have hY1 := (blk_cell HY.out 1).trans rfl; have fY0 := blk_frozen HY.out 0; have fY1 := blk_frozen HY.out 1; have hX0 := blk_cell HX.out 0; have hX1 := blk_cell HX.out 1; have fX0 := blk_frozen HX.out 0; have fX1 := blk_frozen HX.out 1)
    have nR := Aside0.mk (Kd.R_put2 (u := .slice Az l2.length cz) (x := .bool own) HR.out hyz)
    have nC := Aside0.mk (HC.out.put2 (b := w2.heap.size) (by omega) hyg (.slice Az l2.length cz) (.bool own))
    have nK := Aside0.mk (keep_put2 HK.out (b := w2.heap.size) (by omega) (.slice Az l2.length cz) (.bool own))
    have nX := Aside0.mk (blk_far (blk_far HX.out (p := ⟨w2.heap.size, 0, none⟩) (by simp only; omega) (.slice Az l2.length cz)) (p := ⟨w2.heap.size, 1, none⟩) (by simp only; omega) (.bool own))
    have nY := Aside0.mk (put2_blk HY.out (.slice Az l2.length cz) (.bool own))
    have hB6 : w3.heap.size ≤ ((w4.setCell ⟨w2.heap.size, 0, none⟩ (.slice Az l2.length cz)).setCell ⟨w2.heap.size, 1, none⟩ (.bool own)).heap.size := by simpa [World.setCell] using hB
    clear HR HC HK HX HY hY0 hY1 fY0 fY1 hX0 hX1 fX0 fX1
    generalize (w4.setCell ⟨w2.heap.size, 0, none⟩ (.slice Az l2.length cz)).setCell ⟨w2.heap.size, 1, none⟩ (.bool own) = w6 at *
    have HR := nR
    have HC := nC
    have HK := nK
    have HX := nX
    have HY := nY
    clear nR nC nK nX nY
    have hY0 := (blk_cell HY.out 0).trans rfl
    have fY0 := blk_frozen HY.out 0
    go_wp2_with ((with_reducible refine gate_builtin (b := .append) (xs := #[.tmp 33, .tmp 34]) rfl ?_); at_builtin; refine Kd.R_append (Kd.int .i64) w3.heap.size rfl (.tmp 33) (.tmp 34) 24 3 (.int .i64 0) 8 rfl Try.underlying24 info3 rfl (by decide) (by omega) (.slice Az l2.length cz) l2 0 [.int .i64 0] (fun _ => True) (fun _ => False) rfl (by first | (go_simp; done) | (go_simp; rfl)) ?aP (fun _ hk => hk.elim) (fun _ _ => trivial) HR.out (Below.refl _ _) ?aS ?aL ?_; (case aP => exact rfl); (case aS => exact hB6); (case aL => have hl := HL.out; omega); intro v7 w7 ho hb _ _; obtain ⟨l3, hl3⟩ : ∃ l3 : List Int, l3 = l2 ++ [0] := ⟨_, rfl⟩; rw [← hl3] at ho; have HL3 := Aside0.mk (show l3.length = l2.length + 1 by rw [hl3]; simp); clear hl3; obtain ⟨A7, c7, rfl⟩ := Kd.R_slice ho; have nR := Aside0.mk ho; have nC := Aside0.mk (HC.out.low hb (by omega) (by omega)); have nK := Aside0.mk (keep_low HK.out hb (by omega)); have nX := Aside0.mk (blk_low HX.out hb (by omega)); have nY := Aside0.mk (blk_low HY.out hb (by omega)); clear ho hb HR HC HK HX HY hY0 fY0; have HR := nR; have HC := nC; have HK := nK; have HX := nX; have HY := nY; clear nR nC nK nX nY; have hY0 := (blk_cell HY.out 0).trans rfl; have hY1 := (blk_cell HY.out 1).trans rfl; have fY0 := blk_frozen HY.out 0; have fY1 := blk_frozen HY.out 1; have hX0 := blk_cell HX.out 0; have hX1 := blk_cell HX.out 1; have fX0 := blk_frozen HX.out 0; have fX1 := blk_frozen HX.out 1)
    have hl := HL.out
    refine bodyPost_ret (results_cell_row rfl _ _ w.heap.size 26 _ (0, 0) _ rfl (put2_blk (blk_far HX.out (p := ⟨w2.heap.size, 0, none⟩) (by simp only; omega) _) _ _) Try.underlying26 rfl (by kernel_rfl)) rfl ?_
    have hl3 := HL3.out
    have h1 := Kd.R_mono (Kd.R_far (p := ⟨w2.heap.size, 0, none⟩) (Kd.R_bound HR.out) (fun k hk => by have := hk.2.1; simp only; omega) (.slice A7 l3.length c7)) (ok' := fun _ => True) (fun _ _ => trivial)
    exact ⟨_, _, _, rfl, Kd.R_lower (Kd.R_put2 h1 (by omega)) (by omega), by omega, ((HC.out.far (p := ⟨w2.heap.size, 0, none⟩) (by simp only; omega) hyg _).le (by omega)).put2 hsz hne _ _, keep_put2 (keep_far HK.out (p := ⟨w2.heap.size, 0, none⟩) (by simp only; omega) _) (Nat.le_refl _) _ _⟩
  have e2b : (t == 2) = false := by simpa using e2
  by_cases e3 : t = 3
  · subst e3
    go_wp2_with (go_at_call 56; (with_reducible refine (path_any 16 _ _ (by omega) (by omega)).mono ?_); rintro e w4 ⟨z, l2, rfl, hl, hr, hb⟩; obtain ⟨Az, cz, rfl⟩ := Kd.R_slice hr; have hyz := blk_lt HY.out; have hB := Below.size hb; have nR := Aside0.mk hr; have nC := Aside0.mk (HC.out.below hb); have nK := Aside0.mk (HK.out.trans (KeepBut.of_below hb g none) (.inl rfl)); have nX := Aside0.mk (blk_below HX.out hb); have nY := Aside0.mk (blk_below HY.out hb); have nL := Aside0.mk hl; clear hr hb hl HC HK HX HY hY0 hY1 fY0 fY1 hX0 hX1 fX0 fX1; have HC := nC; have HK := nK; have HX := nX; have HY := nY; have HR := nR; have HL := nL; clear nC nK nX nY nR nL; have hY0 := (blk_cell HY.out 0).trans rfl; have hY1 := (blk_cell HY.out 1).trans rfl; have fY0 := blk_frozen HY.out 0; have fY1 := blk_frozen HY.out 1; have hX0 := blk_cell HX.out 0; have hX1 := blk_cell HX.out 1; have fX0 := blk_frozen HX.out 0; have fX1 := blk_frozen HX.out 1)
    have hl := HL.out
    refine bodyPost_ret (results_cell_row rfl _ _ w.heap.size 26 _ (0, 0) _ rfl (put2_blk (blk_far (blk_far HX.out (p := ⟨w2.heap.size, 0, none⟩) (by simp only; omega) _) (p := ⟨w2.heap.size, 1, none⟩) (by simp only; omega) _) _ _) Try.underlying26 rfl (by kernel_rfl)) rfl ?_
    exact ⟨_, _, _, rfl, Kd.R_lower (Kd.R_put2 (Kd.R_put2 HR.out hyz) (by omega)) (by omega), by omega, ((HC.out.le (by omega)).put2 (b := w2.heap.size) (by omega) hyg _ _).put2 hsz hne _ _, keep_put2 (keep_put2 HK.out (b := w2.heap.size) (by omega) _ _) (Nat.le_refl _) _ _⟩
  have e3b : (t == 3) = false := by simpa using e3
  go_wp2
  refine bodyPost_ret (results_cell_row rfl _ _ w.heap.size 26 _ (0, 0) _ rfl (put2_blk HX.out _ _) Try.underlying26 rfl (by kernel_rfl)) rfl ?_
  exact ⟨_, _, _, rfl, HZ.out.put2 (by omega) (by omega), by omega, (HC.out.le (by omega)).put2 hsz hne _ _, keep_put2 HK.out (Nat.le_refl _) _ _⟩
end Go.Proofs.Ytlohlngmagpepaa.Draw
