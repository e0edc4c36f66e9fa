/- What is drawn for FnSplitsOfGraphs: within bounds, whatever it is. -/
import Derived.Test.YtlohlngmagpepaaGreatPFnSplitsOfGraphsx
import Derived.Test.YtlohlngmagpepaaGreatQFnSplitsOfGraphs0
import Derived.Test.YtlohlngmagpepaaGreatQFnSplitsOfGraphs1
import Derived.Test.YtlohlngmagpepaaGreatM1
import Derived.Test.YtlohlngmagpepaaGreatM40
import Derived.Test.YtlohlngmagpepaaGreatM41
import Derived.Test.YtlohlngmagpepaaGreatM9
import Derived.WalkKit
import Derived.RowKit3
import Derived.Deep.QuietTactic
import Derived.BigQuiet
import Derived.Deep.DeepCutAuto
import Derived.Deep.CutBlock
import Derived.Deep.LoopGhost
import Derived.Outline
import Derived.Deep.DeepFit
import Derived.Test.YtlohlngmagpepaaGreatDFnSplitsOfGraphs0
import Derived.Test.YtlohlngmagpepaaGreatDFnSplitsOfGraphs1
import Derived.Deep.RegionLawGrows
namespace Go.Proofs.YtlohlngmagpepaaGreat.Draw
open Go.RowKit Go.Proofs.YtlohlngmagpepaaGreat.PFnSplitsOfGraphs Go.Proofs.YtlohlngmagpepaaGreatW.PrintWords Go.Proofs.YtlohlngmagpepaaGreatW.PrintLast Go.Proofs.YtlohlngmagpepaaGreatW.PrintMore Go.Proofs.YtlohlngmagpepaaGreatM Go.Proofs.YtlohlngmagpepaaGreat.Pure
attribute [local go_sem] max2_int min2_int max_two min_two max_three min_three max_four min_four
set_option linter.unusedVariables false
set_option linter.unusedSimpArgs false
variable {w0 w w1 W : World} {g : Nat} {a : Int}
/-! Rows apart. -/
theorem own_ne {w : World} {b b2 e e2 : Nat} {ok ok2 : Nat → Prop} {u v : Value} {l l2 : List Int} (h : Kd.R (Kd.int .i64) e w b ok u l) (h2 : Kd.R (Kd.int .i64) e2 w b2 ok2 v l2) (hn : ∀ k, ok k → ok2 k → False) : u.ownBlock = none ∨ u.ownBlock ≠ v.ownBlock := by
  cases hu : u.ownBlock with
  | none => exact .inl rfl
  | some k => exact .inr fun e => hn k (h.1 k hu) (h2.1 k (by rw [← e]))
theorem rInt_grown2 {W w1 : World} {base : Nat} {ok : Nat → Prop} {v : Value} {xs : List Int} {row : Option Nat} (h : Kd.R (Kd.int .i64) 3 W base ok v xs) (hg : W.grownBy w1 row) (hne : v.ownBlock = none ∨ v.ownBlock ≠ row) : Kd.R (Kd.int .i64) 3 w1 base ok v xs := Kd.R_of_own (own_other (Kd.own_of_R h) hg hne) h.1
/-! Systems of equations in memory. -/
def rowsOf (s : List PEq) : List Int := ints (s.map Prod.fst)
def wantsOf (s : List PEq) : List Int := ints (s.map Prod.snd)
theorem rowsOf_length (s : List PEq) : (rowsOf s).length = s.length := by unfold rowsOf; rw [ints_length, List.length_map]
theorem wantsOf_length (s : List PEq) : (wantsOf s).length = s.length := by unfold wantsOf; rw [ints_length, List.length_map]
theorem rowsOf_get {s : List PEq} {k : Nat} (h : k < s.length) : rd (rowsOf s) (k : Int) = ((s[k].1 : Nat) : Int) := by
  unfold rowsOf
  rw [ints_get _ k (by rw [List.length_map]; exact h), List.getElem_map]
theorem wantsOf_get {s : List PEq} {k : Nat} (h : k < s.length) : rd (wantsOf s) (k : Int) = ((s[k].2 : Nat) : Int) := by
  unfold wantsOf
  rw [ints_get _ k (by rw [List.length_map]; exact h), List.getElem_map]
theorem soTop_q (x : Nat) (hx : x < 2 ^ 62) (h0 : x ≠ 0) {t : Nat} (ht : blen x - 1 = t) : ∀ w, Calls Tryz.prog 116 #[.int .i64 (x : Int)] w fun r w' => r = .returned (.int .i64 (t : Int)) ∧ ∃ n, w' = w.drewN n := fun w => by
  obtain ⟨K, hK⟩ := ev_get (spec_soTop.ev x (by omega))
  have h1 := blen_ne h0
  have e : pdeg x = (t : Int) := by unfold pdeg; omega
  rw [e] at hK
  exact (spec_soTop.calls K (x : Int) _ w (hK K (Nat.le_refl _))).mono fun _ _ ⟨he, hd⟩ => ⟨he, hd.out⟩
theorem grIn_q (a t : Nat) (ha : a < 2 ^ 62) {q : Bool} (hq : a.testBit t = q) : ∀ w, Calls Tryz.prog 91 #[.int .i64 (a : Int), .int .i64 (t : Int)] w fun r w' => r = .returned (.bool q) ∧ ∃ n, w' = w.drewN n := fun w =>
  (spec_grIn.calls (a : Int) (t : Int) q w ((spec_grIn.eq (a : Int) (t : Int) (by omega) (by omega) (by omega)).trans (by unfold bit; rw [Int.toNat_natCast, Int.toNat_natCast, hq]))).mono fun _ _ ⟨he, hd⟩ => ⟨he, hd.out⟩
theorem paRed_take (s : List PEq) (e : PEq) {k : Nat} (h : k < s.length) : paRed (s.take (k + 1)) e = paOne (paRed (s.take k) e) s[k] := by
  unfold paRed
  rw [List.take_succ_eq_append_getElem h, List.foldl_append]
  rfl
/-- A system in memory: its block, and its two rows, apart, in memory from lo on. -/
def SysAt (W : World) (lo b : Nat) (s : List PEq) : Prop := ∃ vr vw : Value, W.heap[b]? = some (.cells #[vr, vw] 125 (0, 0)) ∧ Kd.R (Kd.int .i64) 3 W lo (fun _ => True) vr (rowsOf s) ∧ Kd.R (Kd.int .i64) 3 W lo (fun _ => True) vw (wantsOf s) ∧ (vr.ownBlock = none ∨ vr.ownBlock ≠ vw.ownBlock) ∧ lo ≤ b
theorem SysAt.lt {W : World} {lo b : Nat} {s : List PEq} (h : SysAt W lo b s) : b < W.heap.size := by obtain ⟨_, _, h1, _⟩ := h; exact blk_lt h1
theorem SysAt.below {W W' : World} {lo b : Nat} {s : List PEq} (h : SysAt W lo b s) (hb : Below W.heap.size W W') : SysAt W' lo b s := by
  obtain ⟨vr, vw, h1, h2, h3, h4⟩ := h
  exact ⟨vr, vw, blk_below h1 hb, Kd.R_below h2 hb, Kd.R_below h3 hb, h4⟩
theorem SysAt.new (W : World) : SysAt (W.alloc (.cells #[.slice none 0 0, .slice none 0 0] 125 (0, 0))) W.heap.size W.heap.size [] :=
  ⟨_, _, blk_new W _, Kd.R_nil _ _ _ _ _, Kd.R_nil _ _ _ _ _, .inl rfl, Nat.le_refl _⟩
theorem sys_ht : ∀ q, q ∈ 3 :: (Kd.int .i64).E → q ≠ 125 := by
  intro q hq
  rcases List.mem_cons.1 hq with rfl | h
  · decide
  · cases h
theorem sys_copy {W wa w5 wb w7 w : World} {A5 A7 : Option Addr} {c5 c7 : Nat} {s : List PEq} (h5 : Kd.R (Kd.int .i64) 3 w5 wa.heap.size (fun _ => True) (.slice A5 s.length c5) (rowsOf s)) (h7 : Kd.R (Kd.int .i64) 3 w7 wb.heap.size (fun _ => True) (.slice A7 s.length c7) (wantsOf s)) (hor : w5.heap.size ≤ wb.heap.size ∨ w7.heap.size ≤ wa.heap.size)
    (h5f : Below w5.heap.size w5 w) (h7f : Below w7.heap.size w7 w) (hW5 : W.heap.size ≤ wa.heap.size) (hW7 : W.heap.size ≤ wb.heap.size) (hWw : W.heap.size ≤ w.heap.size) : SysAt (w.alloc (.cells #[.slice A5 s.length c5, .slice A7 s.length c7] 125 (0, 0))) W.heap.size w.heap.size s := by
  refine ⟨_, _, blk_new _ _, Kd.R_lower (Kd.R_below h5 (below_alloc h5f _)) hW5, Kd.R_lower (Kd.R_below h7 (below_alloc h7f _)) hW7, ?_, hWw⟩
  cases he : (Value.slice A5 s.length c5).ownBlock with
  | none => exact .inl rfl
  | some k =>
    refine .inr fun e => ?_
    have h1 := (Kd.R_bound h5).1 k he
    have h2 := (Kd.R_bound h7).1 k e.symm
    omega
set_option maxRecDepth 100000 in
theorem step_copy {ops : Array Oper} {o : Oper} {a : Act} {w W : World} {K : Act → World → Prop} {Q : Exit → Act → World → Prop} {E : Prop} (hg : o.guard = none) (s x : Operand) (hop : o.op = Op.call { callee := Callee.builtin Builtin.append, args := #[s, x], argTypes := #[24, 24] })
    (ao : Option Addr) (hs : a.eval s = .slice ao 0 0) (ad : Addr) (m c : Nat) {l : List Int} (hx : a.eval x = .slice (some ad) m c) (hr : Rd W (.slice (some ad) m c) l) (hm : l.length = m) (h0 : 0 < m) (hb : Below W.heap.size W w)
    (hK : ∀ A c w', Kd.R (Kd.int .i64) 3 w' w.heap.size (fun _ => True) (.slice A m c) l → Below w.heap.size w w' → Below W.heap.size W w' → K (a.put o.dst (.slice A m c)) w') : if Region.wanted o (yielded ops a.tmps) = true then Oper.wp Tryz.prog o a w K Q else E := by
  have hlen := hr.len
  have hc := (hr.below hb)
  obtain ⟨ti, hti, he⟩ := Option.map_eq_some_iff.1 info3
  obtain ⟨hz, hsz, hby⟩ : ti.zero = some (.int .i64 0) ∧ ti.size = 1 ∧ ti.bytes = 8 := by injection he with e1 e2; injection e2 with e2 e3; exact ⟨e1, e2, e3⟩
  refine step_append_grows hg s x 24 hop 3 ti (.int .i64 0) 1 8 Tryz.underlying24 hti hz hsz hby rfl (by decide) ao 0 0 [] hs (fun _ => ⟨rfl, rfl⟩) rfl (fun _ _ j u h => by simp at h) ad m c (encs (Value.int .i64) l) hx (by unfold encs; rw [List.length_map, hm, Nat.mul_one]) (fun j u h => ?_) (fun u h => ?_) (by omega) (by unfold maxLen; omega) (by omega) (fun v' w' ho hgr => ?_)
  · unfold encs at h
    rw [List.getElem?_map] at h
    obtain ⟨z, hz, rfl⟩ := Option.map_eq_some_iff.1 h
    have hj := (List.getElem?_eq_some_iff.1 hz).1
    have h2 := hc.cellN j (by omega)
    rw [h2]
    unfold rd
    rw [Int.toNat_natCast, List.getD_eq_getElem?_getD, hz]
    rfl
  · unfold encs at h
    obtain ⟨z, _, rfl⟩ := List.mem_map.1 h
    rfl
  · rw [Nat.zero_add, List.nil_append] at ho
    obtain ⟨A, c2, rfl⟩ := own_slice ho
    have hbw := (Below.refl w.heap.size w).grown hgr (Nat.le_refl _) (fun k e => by cases e)
    exact hK A c2 w' (Kd.R_of_own (by rw [hm]; exact ho) (fun _ _ => trivial)) hbw (below_step hb hbw)
theorem put_len (s : List PEq) (e : PEq) : s.length ≤ (paPut s e).1.length := by
  unfold paPut
  split
  · exact Nat.le_refl _
  · rw [List.length_append]
    exact Nat.le_add_right _ _
theorem put_pos (s : List PEq) (e : PEq) (h : e.1 ≠ 0) : 0 < (paPut s e).1.length := by
  cases s with
  | nil =>
    unfold paPut
    rw [if_neg (show ¬ (paRed [] e).1 = 0 from h)]
    simp
  | cons r s => exact Nat.lt_of_lt_of_le (show 0 < (r :: s).length from Nat.succ_pos _) (put_len _ _)
theorem pin_pos (s : List PEq) (k : Nat) : 0 < (pin s k).length := by
  have h0 : (2 : Nat) ^ k ≠ 0 := Nat.pos_iff_ne_zero.1 (Nat.two_pow_pos k)
  unfold pin
  split
  · exact put_pos _ _ h0
  · exact put_pos _ _ h0
theorem pins_pos : ∀ (n : Nat) (s : List PEq), 0 < s.length → 0 < (pins s n).length
  | 0, _, h => h
  | n + 1, s, _ => pins_pos n (pin s n) (pin_pos s n)
theorem pins_ne (n : Nat) (s : List PEq) (h : 0 < n) : 0 < (pins s n).length := by
  cases n with
  | zero => omega
  | succ n => exact pins_pos n (pin s n) (pin_pos s n)
theorem mod_bit {p i : Nat} (h : p.testBit i = true) : p % 2 ^ i ||| 2 ^ i = p % 2 ^ (i + 1) := by
  apply Nat.eq_of_testBit_eq
  intro j
  rw [Nat.testBit_or, Nat.testBit_mod_two_pow, Nat.testBit_mod_two_pow, Nat.testBit_two_pow]
  by_cases e : i = j
  · subst e
    simp [h]
  · rcases Nat.lt_or_gt_of_ne e with h1 | h1
    · rw [decide_eq_false (by omega : ¬ j < i), decide_eq_false e, decide_eq_false (by omega : ¬ j < i + 1)]
      rfl
    · rw [decide_eq_true (by omega : j < i), decide_eq_false e, decide_eq_true (by omega : j < i + 1), Bool.or_false]
theorem mod_nobit {p i : Nat} (h : p.testBit i = false) : p % 2 ^ i = p % 2 ^ (i + 1) := by
  apply Nat.eq_of_testBit_eq
  intro j
  rw [Nat.testBit_mod_two_pow, Nat.testBit_mod_two_pow]
  by_cases e : i = j
  · subst e
    simp [h]
  · rcases Nat.lt_or_gt_of_ne e with h1 | h1
    · rw [decide_eq_false (by omega : ¬ j < i), decide_eq_false (by omega : ¬ j < i + 1)]
    · rw [decide_eq_true (by omega : j < i), decide_eq_true (by omega : j < i + 1)]
set_option maxRecDepth 100000 in
set_option maxHeartbeats 4000000 in
theorem paPut_any {W : World} {lo b n : Nat} {s : List PEq} {e : PEq} (hS : SysAt W lo b s) (hP : PSys n s) (hn : n ≤ 60) (he : e.1 < 2 ^ n ∧ e.2 < 2) (hl : s.length ≤ 1000) :
    Calls Tryz.prog 151 #[.pointer (some ⟨b, 0, none⟩), .int .i64 (e.1 : Int), .int .i64 (e.2 : Int)] W fun r W' => r = .returned (.bool (paPut s e).2) ∧ SysAt W' lo b (paPut s e).1 ∧ Below lo W W' := by
  have hu := Tryz.underlying125
  have hb := hS.lt
  obtain ⟨vr, vw, hX, hR, hW, hap, hlo⟩ := hS
  obtain ⟨Ar, cr, rfl⟩ := Kd.R_slice hR
  obtain ⟨Aw, cw, rfl⟩ := Kd.R_slice hW
  rw [rowsOf_length] at hX hR hap
  rw [wantsOf_length] at hX hW hap
  have h62 : (2 : Nat) ^ n ≤ 2 ^ 60 := Nat.pow_le_pow_right (by decide) hn
  have X := Aside0.mk hX
  have RR := Aside0.mk hR
  have RW := Aside0.mk hW
  have HP := Aside0.mk hP
  have HE := Aside0.mk he
  obtain ⟨e1, e2⟩ := e
  simp only at he
  clear hX hR hW hP
  have hX0 := (blk_cell X.out 0).trans rfl
  have hX1 := (blk_cell X.out 1).trans rfl
  go_enter Tryz.func151, Tryz.ntmps151
  go_wp2
  go_loopw [1, 2, 14] (fun v1 v2 v14 wr => ∃ (k m : Nat), k ≤ s.length ∧ v14 = .int .i64 (k : Int) ∧ v1 = .int .i64 ((paRed (s.take k) (e1, e2)).1 : Int) ∧ v2 = .int .i64 ((paRed (s.take k) (e1, e2)).2 : Int) ∧ wr = W.drewN m) (fun _ _ v14 _ => s.length - (intOf v14).toNat)
  case atStart => exact ⟨0, 0, Nat.zero_le _, rfl, rfl, rfl, rfl⟩
  case round =>
    obtain ⟨k, m, hk, rfl, rfl, rfl, rfl⟩ := hrel
    have hbd := pw_below_drewN (Below.refl W.heap.size W) m
    by_cases hlt : k < s.length
    · have hst := paRed_take s (e1, e2) hlt
      have hok := HP.out.ok s[k] (List.getElem_mem hlt)
      have hab := (paRed_go (n := n) (by omega) (s.take k) (e1, e2) (fun r hr => ⟨(HP.out.ok r (List.mem_of_mem_take hr)).2.1, (HP.out.ok r (List.mem_of_mem_take hr)).2.2⟩) HE.out).1
      have RC := (Rd.of RR.out (by rw [rowsOf_length]; omega)).below hbd
      have WC := (Rd.of RW.out (by rw [wantsOf_length]; omega)).below hbd
      obtain ⟨ar, er, hc_⟩ := RC.cell (k : Int) (by omega) (by first | omega | (rw [rowsOf_length]; omega))
      subst er
      clear hc_
      obtain ⟨aw, ew, hc_⟩ := WC.cell (k : Int) (by omega) (by first | omega | (rw [wantsOf_length]; omega))
      subst ew
      clear hc_
      clear RC WC
      have hcr : ∀ m, (W.drewN m).cell? (ar.add k) = some (.int .i64 ((s[k].1 : Nat) : Int)) := fun m => by
        have h := ((Rd.of RR.out (by rw [rowsOf_length]; omega)).below (pw_below_drewN (Below.refl W.heap.size W) m)).cellN k (by first | exact hlt | (rw [rowsOf_length]; exact hlt))
        rwa [rowsOf_get hlt] at h
      have hcw : ∀ m, (W.drewN m).cell? (aw.add k) = some (.int .i64 ((s[k].2 : Nat) : Int)) := fun m => by
        have h := ((Rd.of RW.out (by rw [wantsOf_length]; omega)).below (pw_below_drewN (Below.refl W.heap.size W) m)).cellN k (by first | exact hlt | (rw [wantsOf_length]; exact hlt))
        rwa [wantsOf_get hlt] at h
      have hXA : ∀ m, (W.drewN m).cell? ⟨b, 1, none⟩ = some (.slice (some aw) s.length cw) := fun m => (blk_cell (blk_below X.out (pw_below_drewN (Below.refl W.heap.size W) m)) 1).trans rfl
      obtain ⟨⟨x, y⟩, hxy⟩ : ∃ p, s[k] = p := ⟨_, rfl⟩
      rw [hxy] at hst hok hcr hcw
      obtain ⟨⟨a, c⟩, hac⟩ : ∃ p, paRed (s.take k) (e1, e2) = p := ⟨_, rfl⟩
      rw [hac] at hst hab ⊢
      simp only at hok hab hcr hcw ⊢
      have HST := Aside0.mk hst
      have hx62 : x < 2 ^ 62 := by omega
      have ha62 : a < 2 ^ 62 := by omega
      have hx0 := hok.1
      have xe : Go.bits .xor .i64 (a : Int) (x : Int) = ((a ^^^ x : Nat) : Int) := xor_nat a x (by omega) (by omega)
      have ye : Go.bits .xor .i64 (c : Int) (y : Int) = ((c ^^^ y : Nat) : Int) := xor_nat c y (by omega) (by omega)
      clear hst hok hab hxy hac hX0 hX1 hbd
      obtain ⟨t, ht⟩ : ∃ t, blen x - 1 = t := ⟨_, rfl⟩
      obtain ⟨q, hq⟩ : ∃ q, a.testBit t = q := ⟨_, rfl⟩
      have HT := Aside0.mk ht
      have HQ := Aside0.mk hq
      clear ht hq
      cases q
      · have hpo : paOne (a, c) (x, y) = (a, c) := if_neg (by rw [show (a, c).1.testBit (blen (x, y).1 - 1) = a.testBit (blen x - 1) from rfl, HT.out, HQ.out]; decide)
        have HPO := Aside0.mk hpo
        clear hpo
        go_wp2_with (first
          | (go_at_call 116; (with_reducible refine (soTop_q x hx62 hx0 HT.out _).mono ?_); rintro r w2 ⟨rfl, n1, rfl⟩; simp only [World.drewN_drewN])
          | (go_at_call 91; (with_reducible refine (grIn_q a t ha62 HQ.out _).mono ?_); rintro r w3 ⟨rfl, n2, rfl⟩; simp only [World.drewN_drewN]))
        go_roundw
        case rel => exact ⟨k + 1, _, by omega, by go_num, by rw [HST.out, HPO.out], by rw [HST.out, HPO.out], rfl⟩
        case measure => simp [intOf]; omega
      · have hpo : paOne (a, c) (x, y) = (a ^^^ x, c ^^^ y) := if_pos (by rw [show (a, c).1.testBit (blen (x, y).1 - 1) = a.testBit (blen x - 1) from rfl, HT.out, HQ.out])
        have HPO := Aside0.mk hpo
        clear hpo
        go_wp2_with (first
          | (go_at_call 116; (with_reducible refine (soTop_q x hx62 hx0 HT.out _).mono ?_); rintro r w2 ⟨rfl, n1, rfl⟩; simp only [World.drewN_drewN])
          | (go_at_call 91; (with_reducible refine (grIn_q a t ha62 HQ.out _).mono ?_); rintro r w3 ⟨rfl, n2, rfl⟩; simp only [World.drewN_drewN]))
        go_roundw
        case rel => exact ⟨k + 1, _, by omega, by go_num, by rw [HST.out, HPO.out], by rw [HST.out, HPO.out], rfl⟩
        case measure => simp [intOf]; omega
    · have e5 : s.take k = s := List.take_of_length_le (by omega)
      rw [e5]
      have hab := (paRed_go (n := n) (by omega) s (e1, e2) (fun r hr => ⟨(HP.out.ok r hr).2.1, (HP.out.ok r hr).2.2⟩) HE.out).1
      obtain ⟨⟨a, c⟩, hac⟩ : ∃ p, paRed s (e1, e2) = p := ⟨_, rfl⟩
      have hput : paPut s (e1, e2) = if a = 0 then (s, decide (c = 0)) else (s ++ [(a, c)], true) := by
        unfold paPut
        rw [hac]
      rw [hac] at hab ⊢
      simp only at hab ⊢
      have hap2 := Aside0.mk hap
      clear hap hX0 hX1 hac
      by_cases e0 : a = 0
      · subst e0
        rw [if_pos rfl] at hput
        have HPU := Aside0.mk hput
        clear hput
        have hcc : ((c : Int) == 0) = decide (c = 0) := by
          rw [Bool.eq_iff_iff, beq_iff_eq, decide_eq_true_eq]
          exact Int.ofNat_eq_zero
        go_wp2
        go_ret
        rw [HPU.out]
        exact ⟨by rw [← hcc]; rfl, SysAt.below ⟨_, _, X.out, RR.out, RW.out, hap2.out, hlo⟩ hbd, hbd.mono (by omega)⟩
      · rw [if_neg e0] at hput
        have HPU := Aside0.mk hput
        clear hput
        have hne : ((a : Int) == 0) = false := by simp; exact e0
        have nX := Aside0.mk (blk_below X.out hbd)
        have nR := Aside0.mk (Kd.R_below RR.out hbd)
        have nW := Aside0.mk (Kd.R_below RW.out hbd)
        have HB := Aside0.mk (hbd.mono (show lo ≤ W.heap.size by omega))
        clear X RR RW hbd
        generalize W.drewN m = w1 at *
        have X := nX
        have RR := nR
        have RW := nW
        clear nX nR nW
        have hbl := blk_lt X.out
        have hX0 := (blk_cell X.out 0).trans rfl
        have hX1 := (blk_cell X.out 1).trans rfl
        have fX0 := blk_frozen X.out 0
        have fX1 := blk_frozen X.out 1
        have hap3 : (Value.slice Aw s.length cw).ownBlock = none ∨ (Value.slice Aw s.length cw).ownBlock ≠ (Value.slice Ar s.length cr).ownBlock := by
          rcases hap2.out with h | h
          · cases hw : (Value.slice Aw s.length cw).ownBlock with
            | none => exact .inl rfl
            | some k => exact .inr (by rw [h]; exact fun e => by cases e)
          · exact .inr (Ne.symm h)
        have HAP := Aside0.mk hap3
        clear hap3
        go_upto_region 11 with ((with_reducible refine gate_builtin (b := .append) (xs := #[.tmp 44, .tmp 46]) rfl ?_); at_builtin; refine Kd.R_append (Kd.int .i64) (w0 := w1) lo rfl (.tmp 44) (.tmp 46) 24 3 (.int .i64 0) 8 rfl Tryz.underlying24 info3 rfl (by decide) (by decide) (.slice Ar s.length cr) (rowsOf s) (a : Int) [.int .i64 (a : Int)] (fun _ => True) (fun _ => False) rfl (by first | (go_simp; done) | (go_simp; rfl)) ?aP (fun _ hk => hk.elim) (fun _ _ => trivial) RR.out (Below.refl _ _) (by omega) ?aL ?_; (case aP => exact rfl); (case aL => rw [rowsOf_length]; omega); intro v5 w5 ho hb5 hg hat; obtain ⟨A5, c5, h5⟩ := Kd.R_slice ho; rw [List.length_append, rowsOf_length, List.length_singleton] at h5; subst h5; have nX := Aside0.mk (blk_grown X.out hg (Kd.R_ne RR.out X.out (by decide))); have nW := Aside0.mk (rInt_grown2 RW.out hg HAP.out); have hap4 : (Value.slice A5 (s.length + 1) c5).ownBlock = none ∨ (Value.slice A5 (s.length + 1) c5).ownBlock ≠ (Value.slice Aw s.length cw).ownBlock := (by rcases hat with h | ⟨q, h, hq⟩; (· rw [h]; exact hap2.out); (· refine .inr ?_; rw [h]; intro e; have := (Kd.R_bound RW.out).1 q e.symm; omega)); have HAP2 := Aside0.mk hap4; clear hap4 hat; have nB := Aside0.mk (HB.out.trans hb5); clear X RR RW HB HAP hap2 hg hb5; (try clear hX0 fX0); (try clear hX1 fX1); have X := nX; have RR := Aside0.mk ho; have RW := nW; have HB := nB; clear nX nW nB ho; have hX0 := (blk_cell X.out 0).trans rfl; have fX0 := blk_frozen X.out 0)
        have nX := Aside0.mk (blk_put X.out 0 (.slice A5 (s.length + 1) c5) rfl)
        have nRR := Aside0.mk (Kd.R_set RR.out X.out sys_ht 0 (.slice A5 (s.length + 1) c5))
        have nRW := Aside0.mk (Kd.R_set RW.out X.out sys_ht 0 (.slice A5 (s.length + 1) c5))
        have nB := Aside0.mk (HB.out.setCell (p := ⟨b, 0, none⟩) hlo (.slice A5 (s.length + 1) c5))
        clear X RR RW HB hX0 fX0 hbl
        generalize w5.setCell ⟨b, 0, none⟩ (.slice A5 (s.length + 1) c5) = w6 at *
        have X := nX
        have RR := nRR
        have RW := nRW
        have HB := nB
        clear nX nRR nRW nB
        have hbl := blk_lt X.out
        have hX1 := (blk_cell X.out 1).trans rfl
        have fX1 := blk_frozen X.out 1
        go_upto_region 12 with ((with_reducible refine gate_builtin (b := .append) (xs := #[.tmp 54, .tmp 56]) rfl ?_); at_builtin; refine Kd.R_append (Kd.int .i64) (w0 := w6) lo rfl (.tmp 54) (.tmp 56) 24 3 (.int .i64 0) 8 rfl Tryz.underlying24 info3 rfl (by decide) (by decide) (.slice Aw s.length cw) (wantsOf s) (c : Int) [.int .i64 (c : Int)] (fun _ => True) (fun _ => False) rfl (by first | (go_simp; done) | (go_simp; rfl)) ?aP (fun _ hk => hk.elim) (fun _ _ => trivial) RW.out (Below.refl _ _) (by omega) ?aL ?_; (case aP => exact rfl); (case aL => rw [wantsOf_length]; omega); intro v7 w7 ho hb5 hg hat; obtain ⟨A7, c7, h7⟩ := Kd.R_slice ho; rw [List.length_append, wantsOf_length, List.length_singleton] at h7; subst h7; have nX := Aside0.mk (blk_grown X.out hg (Kd.R_ne RW.out X.out (by decide))); have nR := Aside0.mk (rInt_grown2 RR.out hg HAP2.out); have hap4 : (Value.slice A5 (s.length + 1) c5).ownBlock = none ∨ (Value.slice A5 (s.length + 1) c5).ownBlock ≠ (Value.slice A7 (s.length + 1) c7).ownBlock := (by rcases hat with h | ⟨q, h, hq⟩; (· rw [h]; exact HAP2.out); (· cases h5 : (Value.slice A5 (s.length + 1) c5).ownBlock with | none => exact .inl rfl | some q2 => (refine .inr ?_; rw [h]; intro e; have := (Kd.R_bound RR.out).1 q2 h5; injection e with e; omega))); have HAP3 := Aside0.mk hap4; clear hap4 hat; have nB := Aside0.mk (HB.out.trans hb5); clear X RR RW HB HAP2 hg hb5; (try clear hX1 fX1); have X := nX; have RR := nR; have RW := Aside0.mk ho; have HB := nB; clear nX nR nB ho; have hX1 := (blk_cell X.out 1).trans rfl; have fX1 := blk_frozen X.out 1)
        have nX := blk_put X.out 1 (.slice A7 (s.length + 1) c7) rfl
        have nRR := Kd.R_set RR.out X.out sys_ht 1 (.slice A7 (s.length + 1) c7)
        have nRW := Kd.R_set RW.out X.out sys_ht 1 (.slice A7 (s.length + 1) c7)
        have nB := HB.out.setCell (p := ⟨b, 1, none⟩) hlo (.slice A7 (s.length + 1) c7)
        go_wp2
        go_ret
        rw [HPU.out]
        refine ⟨rfl, ⟨_, _, nX, ?_, ?_, HAP3.out, hlo⟩, nB⟩
        · rw [show rowsOf (s ++ [(a, c)]) = rowsOf s ++ [(a : Int)] by unfold rowsOf ints; simp]
          exact nRR
        · rw [show wantsOf (s ++ [(a, c)]) = wantsOf s ++ [(c : Int)] by unfold wantsOf ints; simp]
          exact nRW
theorem paPut_zero {W : World} {lo b n z : Nat} {s : List PEq} (hS : SysAt W lo b s) (hP : PSys n s) (hn : n ≤ 60) (he : ((z, 0) : PEq).1 < 2 ^ n ∧ ((z, 0) : PEq).2 < 2) (hl : s.length ≤ 1000) :
    Calls Tryz.prog 151 #[.pointer (some ⟨b, 0, none⟩), .int .i64 (z : Int), .int .i64 0] W fun r W' => r = .returned (.bool (paPut s (z, 0)).2) ∧ SysAt W' lo b (paPut s (z, 0)).1 ∧ Below lo W W' := paPut_any (e := (z, 0)) hS hP hn he hl
theorem paPut_one {W : World} {lo b n z : Nat} {s : List PEq} (hS : SysAt W lo b s) (hP : PSys n s) (hn : n ≤ 60) (he : ((z, 1) : PEq).1 < 2 ^ n ∧ ((z, 1) : PEq).2 < 2) (hl : s.length ≤ 1000) :
    Calls Tryz.prog 151 #[.pointer (some ⟨b, 0, none⟩), .int .i64 (z : Int), .int .i64 1] W fun r W' => r = .returned (.bool (paPut s (z, 1)).2) ∧ SysAt W' lo b (paPut s (z, 1)).1 ∧ Below lo W W' := paPut_any (e := (z, 1)) hS hP hn he hl
theorem eqs_get {f : Nat → Nat} {n y j : Nat} (h : j < (eqsOf f n y).length) : (eqsOf f n y)[j] = (f j, if y.testBit j = true then 1 else 0) := by
  simp [eqsOf]
theorem eqs_len (f : Nat → Nat) (n y : Nat) : (eqsOf f n y).length = n := by unfold eqsOf; simp
theorem want_bit {y j : Nat} : (((y : Int) / 2 ^ j).tmod 2) = ((if y.testBit j = true then 1 else 0 : Nat) : Int) := by
  have e : (y : Int) / 2 ^ j = ((y / 2 ^ j : Nat) : Int) := by
    rw [← pow_cast]
    exact (Int.natCast_ediv y (2 ^ j)).symm
  rw [e, Nat.testBit_eq_decide_div_mod_eq]
  show (((y / 2 ^ j) % 2 : Nat) : Int) = _
  by_cases h : y / 2 ^ j % 2 = 1
  · rw [h, decide_eq_true rfl, if_pos rfl]
  · rw [decide_eq_false h, if_neg (by decide)]
    have : y / 2 ^ j % 2 = 0 := by omega
    rw [this]
set_option maxRecDepth 100000 in
set_option maxHeartbeats 4000000 in
theorem paSolutions_any {W : World} {v : Value} {n y p q : Nat} {l : List Nat} (h : Rd W v (ints l)) (ho : PaOk n l y p q) :
    Calls Tryz.prog 126 #[.int .i64 (n : Int), v, .int .i64 (y : Int)] W fun e W' => e = .returned (.tuple #[.int .i64 (q : Int), .int .i64 (p : Int), .bool true]) ∧ Below W.heap.size W W' := by
  have hu := Tryz.underlying125
  obtain ⟨A, c, rfl⟩ := h.slice
  have hn := ho.n16
  have hl := ho.len
  have HR := Aside0.mk h
  have HO := Aside0.mk ho
  have HB := Aside0.mk (below_alloc (Below.refl W.heap.size W) (.cells #[.slice none 0 0, .slice none 0 0] 125 (0, 0)))
  have HS := Aside0.mk (SysAt.new W)
  clear h ho
  rw [ints_length, hl]
  go_enter Tryz.func126, Tryz.ntmps126
  go_upto_region 2 with (fail)
  generalize W.alloc (.cells #[.slice none 0 0, .slice none 0 0] 125 (0, 0)) = w1 at *
  go_wp2
  go_loopw [21] (fun v21 wr => ∃ j : Nat, j ≤ n ∧ v21 = .int .i64 (j : Int) ∧ Aside0 (SysAt wr W.heap.size W.heap.size (paAll [] ((eqsOf (fun i => l.getD i 0) n y).take j))) ∧ Aside0 (Below W.heap.size W wr)) (fun v21 _ => n - (intOf v21).toNat)
  case atStart => exact ⟨0, Nat.zero_le _, rfl, HS, HB⟩
  case round => as_aux_lemma =>
    clear HS HB
    obtain ⟨j, hj, rfl, HS, HB⟩ := hrel
    have hs63 : n ≤ 63 := by omega
    have hel := eqs_len (fun i => l.getD i 0) n y
    have htk : ∀ m, PSys n (paAll [] ((eqsOf (fun i => l.getD i 0) n y).take m)) ∧ PSol (paAll [] ((eqsOf (fun i => l.getD i 0) n y).take m)) p := fun m => by
      have h := all_sol hs63 HO.out.pl ((eqsOf (fun i => l.getD i 0) n y).take m) [] (psys_nil n) (fun e he => HO.out.eqs e (List.mem_of_mem_take he)) (fun e he => by simp at he) (fun e he => HO.out.sol e (List.mem_of_mem_take he))
      exact ⟨h.1, (h.2 p HO.out.pl).2 ⟨fun e he => by simp at he, fun e he => HO.out.sol e (List.mem_of_mem_take he)⟩⟩
    have hpl : ∀ (m : Nat), (paAll [] ((eqsOf (fun i => l.getD i 0) n y).take m)).length ≤ m := fun m => by
      induction m with
      | zero => simp [paAll]
      | succ m ih =>
        by_cases hm : m < (eqsOf (fun i => l.getD i 0) n y).length
        · rw [List.take_succ_eq_append_getElem hm, paAll_snoc]
          unfold paPut
          split
          · exact Nat.le_succ_of_le ih
          · rw [List.length_append, List.length_singleton]
            omega
        · rw [List.take_of_length_le (by omega)] at ih ⊢
          omega
    by_cases hlt : j < n
    · have hje : j < (eqsOf (fun i => l.getD i 0) n y).length := by omega
      have hst := paAll_snoc [] ((eqsOf (fun i => l.getD i 0) n y).take j) (eqsOf (fun i => l.getD i 0) n y)[j]
      rw [← List.take_succ_eq_append_getElem hje] at hst
      have he := HO.out.eqs _ (List.getElem_mem hje)
      have hso := HO.out.sol _ (List.getElem_mem hje)
      have hg := eqs_get hje
      obtain ⟨hP, hSp⟩ := htk j
      have hln := hpl j
      have hput := put_true hs63 hP he HO.out.pl hSp hso
      rw [hg] at hst he hput
      have hgl : l.getD j 0 = l[j] := by rw [List.getD_eq_getElem?_getD, List.getElem?_eq_getElem (by omega), Option.getD_some]
      simp only [hgl] at hst he hput
      obtain ⟨ad, e1, hc_⟩ := HR.out.cell (j : Int) (by omega) (by first | omega | (rw [ints_length]; omega))
      subst e1
      clear hc_
      have hcell := (HR.out.below HB.out).cellN j (by first | omega | (rw [ints_length]; omega))
      rw [ints_get l j (by omega)] at hcell
      have hw := want_bit (y := y) (j := j)
      obtain ⟨t, ht⟩ : ∃ t : Nat, (if y.testBit j = true then 1 else 0) = t := ⟨_, rfl⟩
      rw [ht] at hst he hput hw
      obtain ⟨x, hx⟩ : ∃ x, l[j] = x := ⟨_, rfl⟩
      rw [hx] at hst he hput hcell
      generalize paAll [] ((eqsOf (fun i => l.getD i 0) n y).take j) = S at *
      have HP := Aside0.mk hP
      have HE := Aside0.mk he
      have HST := Aside0.mk hst
      have HPT := Aside0.mk hput
      have hn60 : n ≤ 60 := by omega
      have hln2 : S.length ≤ 1000 := by omega
      clear hP he hst hput hg hso hSp htk hpl hx ht hgl hel
      go_wp2_with (go_at_call 151; (with_reducible refine (paPut_any (e := (x, t)) HS.out HP.out hn60 HE.out hln2).mono ?_); rintro r w2 ⟨rfl, hs, hb⟩; rw [HPT.out]; have nS := Aside0.mk hs; have nB := Aside0.mk (HB.out.trans hb); clear HS HB hs hb hcell; have HS := nS; have HB := nB; clear nS nB)
      go_roundw
      case rel => exact ⟨j + 1, by omega, by go_num, ⟨by rw [HST.out]; exact HS.out⟩, HB⟩
      case measure => simp [intOf]; omega
    · have e5 : (eqsOf (fun i => l.getD i 0) n y).take j = eqsOf (fun i => l.getD i 0) n y := List.take_of_length_le (by omega)
      have hP0 := (htk j).1
      have hl0 := hpl j
      rw [e5] at HS hP0 hl0
      have hfree := HO.out.free
      have hall := HO.out.all
      have hbits := HO.out.bits
      clear htk hpl hel e5
      generalize paAll [] (eqsOf (fun i => l.getD i 0) n y) = S0 at *
      obtain ⟨vr, vw, hX, hR, hW, hap, hlo⟩ := HS.out
      obtain ⟨Ar, cr, rfl⟩ := Kd.R_slice hR
      rw [rowsOf_length] at hX
      have hX0 := (blk_cell hX 0).trans rfl
      have HF := Aside0.mk hfree
      have HALL := Aside0.mk hall
      have HBITS := Aside0.mk hbits
      have HL0 : Aside0 (S0.length ≤ n) := ⟨by omega⟩
      have HP0 := Aside0.mk hP0
      have hq : (n : Int) - (S0.length : Int) = (q : Int) := by omega
      have hw0 : wrap64 ((n : Int) - (S0.length : Int)) = (q : Int) := by rw [hq]; exact wrap_id (by omega) (by omega)
      have hw1 : wrap64 ((n : Int) - 1) = (n : Int) - 1 := wrap_id (by omega) (by omega)
      clear hP0 hl0 hfree hall hbits hR hW hap hX hlo
      go_wp2
      go_loopw [13] (fun v13 wr => ∃ (k : Nat) (S : List PEq), k ≤ n ∧ v13 = .int .i64 ((k : Int) - 1) ∧ Aside0 (SysAt wr W.heap.size W.heap.size S) ∧ Aside0 (Below W.heap.size W wr) ∧ Aside0 (PSys n S ∧ pins S k = pins S0 n ∧ S.length + k ≤ 2 * n)) (fun v13 _ => (intOf v13 + 1).toNat)
      case atStart => exact ⟨n, S0, Nat.le_refl _, rfl, HS, HB, ⟨HP0.out, rfl, by have := HL0.out; omega⟩⟩
      case round => as_aux_lemma =>
        clear HS HB hX0
        obtain ⟨k, S, hk, rfl, HS, HB, HI⟩ := hrel
        cases k with
        | zero =>
          rw [show ((0 : Nat) : Int) - 1 = -1 from rfl]
          obtain ⟨hP, hpin, hlen⟩ := HI.out
          have HPS := Aside0.mk hP
          have hS : S = pins S0 n := hpin
          clear hP hpin HI
          have HL : Aside0 (S.length ≤ 2 * n) := ⟨by omega⟩
          have HPN : Aside0 (0 < n → 0 < S.length) := ⟨fun h => by rw [hS]; exact pins_ne n _ h⟩
          have HBT : Aside0 (∀ i, i < n → (paPut S (2 ^ i, 0)).2 = !p.testBit i) := ⟨by rw [hS]; exact HBITS.out⟩
          clear hS hlen
          go_wp2
          go_loopw [14, 15] (fun v14 v15 wr => ∃ i : Nat, i ≤ n ∧ v15 = .int .i64 (i : Int) ∧ v14 = .int .i64 ((p % 2 ^ i : Nat) : Int) ∧ Aside0 (SysAt wr W.heap.size W.heap.size S) ∧ Aside0 (Below W.heap.size W wr)) (fun _ v15 _ => n - (intOf v15).toNat)
          case atStart => exact ⟨0, Nat.zero_le _, rfl, by simp [Nat.mod_one], HS, HB⟩
          case round => as_aux_lemma =>
            clear HS HB
            obtain ⟨i, hi, rfl, rfl, HS, HB⟩ := hrel
            by_cases hlt : i < n
            · have hm16 : p % 2 ^ i < 2 ^ n := Nat.lt_of_le_of_lt (Nat.mod_le _ _) HO.out.pl
              have hlast : (if p.testBit i = true then p % 2 ^ i ||| 2 ^ i else p % 2 ^ i) = p % 2 ^ (i + 1) := by
                cases hb : p.testBit i
                · rw [if_neg (by decide)]; exact mod_nobit hb
                · rw [if_pos rfl]; exact mod_bit hb
              have hbt := HBT.out i hlt
              have hzn : (2 : Nat) ^ i < 2 ^ n := Nat.pow_lt_pow_right (by decide) hlt
              have hz16 : (2 : Nat) ^ n ≤ 2 ^ 16 := Nat.pow_le_pow_right (by decide) hn
              have hwz : wrap64 (2 ^ i) = ((2 ^ i : Nat) : Int) := by
                have h5 : (2 : Nat) ^ i < 65536 := by omega
                rw [← pow_cast]
                generalize 2 ^ i = z at h5 ⊢
                exact wrap_id (by omega) (by omega)
              have hk0 : ((2 ^ i, 0) : PEq).1 < 2 ^ n ∧ ((2 ^ i, 0) : PEq).2 < 2 := ⟨hzn, by simp⟩
              generalize hz : (2 : Nat) ^ i = z at hm16 hlast hbt hzn hwz hk0 ⊢
              obtain ⟨pm, hpm⟩ : ∃ pm, p % z = pm := ⟨_, rfl⟩
              rw [hpm] at hlast hm16 ⊢
              have hor : Go.bits .or .i64 (pm : Int) (z : Int) = ((pm ||| z : Nat) : Int) := or_nat pm z (Nat.lt_of_lt_of_le hm16 (Nat.le_trans hz16 (by decide))) (Nat.lt_of_lt_of_le hzn (Nat.le_trans hz16 (by decide)))
              obtain ⟨bt, hbt2⟩ : ∃ bt, p.testBit i = bt := ⟨_, rfl⟩
              rw [hbt2] at hlast hbt
              have HLAST := Aside0.mk hlast
              have HBIT := Aside0.mk hbt
              have HE0 := Aside0.mk hk0
              have hSpos : 0 < S.length := HPN.out (by omega)
              have HPOS := Aside0.mk hSpos
              clear hlast hbt hk0 hbt2 hpm hz hzn hz16 hm16 hSpos
              go_upto_region 18 with (fail)
              go_cut [16] (fun v16 wc => ∃ bt, v16 = .pointer (some ⟨bt, 0, none⟩) ∧ Aside0 (SysAt wc wr.heap.size bt S) ∧ Aside0 (Below wr.heap.size wr wc))
              case first => as_aux_lemma =>
                obtain ⟨vr, vw, hX, hR, hW, hap, hlo⟩ := HS.out
                obtain ⟨Ar, cr, rfl⟩ := Kd.R_slice hR
                obtain ⟨Aw, cw, rfl⟩ := Kd.R_slice hW
                rw [rowsOf_length] at hX hR
                rw [wantsOf_length] at hX hW
                have RR := Rd.of hR (by rw [rowsOf_length]; have := HL.out; omega)
                have RW := Rd.of hW (by rw [wantsOf_length]; have := HL.out; omega)
                obtain ⟨ar, er, hc_⟩ := RR.cell 0 (by omega) (by have := HPOS.out; omega)
                subst er
                clear hc_
                obtain ⟨aw, ew, hc_⟩ := RW.cell 0 (by omega) (by have := HPOS.out; omega)
                subst ew
                clear hc_
                have HRR := Aside0.mk RR
                have HRW := Aside0.mk RW
                have hmk : ∀ w', Below wr.heap.size wr w' → Below wr.heap.size wr w' ∧ w'.cell? ⟨W.heap.size, 0, none⟩ = some (.slice (some ar) S.length cr) ∧ w'.cell? ⟨W.heap.size, 1, none⟩ = some (.slice (some aw) S.length cw) := fun w' hb => ⟨hb, (blk_cell (blk_below hX hb) 0).trans rfl, (blk_cell (blk_below hX hb) 1).trans rfl⟩
                have HMK := Aside0.mk hmk
                clear hR hW hap hX RR RW hmk hlo
                go_region_held3 (fun w' => Below wr.heap.size wr w' ∧ w'.cell? ⟨W.heap.size, 0, none⟩ = some (.slice (some ar) S.length cr) ∧ w'.cell? ⟨W.heap.size, 1, none⟩ = some (.slice (some aw) S.length cw)) (first | assumption | (refine HMK.out _ ?_; repeat (first | exact Below.refl _ _ | exact hbw5.out | exact hbw7.out | refine below_drew1 ?_ | refine below_alloc ?_ _))) (first | (refine step_copy rfl (.tmp 62) (.tmp 66) rfl _ rfl _ _ _ rfl HRR.out (rowsOf_length S) HPOS.out (by apply And.left; assumption) ?_; intro A5 c5 w5 h5 hb5 hbw5; have h5 := Aside0.mk h5; have hb5 := Aside0.mk hb5; have hbw5 := Aside0.mk hbw5) | (refine step_copy rfl (.tmp 68) (.tmp 72) rfl _ rfl _ _ _ rfl HRW.out (wantsOf_length S) HPOS.out (by apply And.left; assumption) ?_; intro A7 c7 w7 h7 hb7 hbw7; have h7 := Aside0.mk h7; have hb7 := Aside0.mk hb7; have hbw7 := Aside0.mk hbw7))
                all_goals go_wp2
                all_goals go_meet
                all_goals case rel =>
                  refine ⟨_, rfl, ⟨?_⟩, ⟨?_⟩⟩
                  · refine sys_copy h5.out h7.out ?_ ?_ ?_ ?_ ?_ ?_
                    · first
                        | (refine .inl (Below.size (B := w5.heap.size) ?_); (repeat (first | exact Below.refl _ _ | exact hbw5.out | exact hbw7.out | refine below_drew1 ?_ | refine below_alloc ?_ _ | refine below_step ?_ hb7.out | refine below_step ?_ hb5.out)); done)
                        | (refine .inr (Below.size (B := w7.heap.size) ?_); (repeat (first | exact Below.refl _ _ | exact hbw5.out | exact hbw7.out | refine below_drew1 ?_ | refine below_alloc ?_ _ | refine below_step ?_ hb7.out | refine below_step ?_ hb5.out)); done)
                    · (repeat (first | exact Below.refl _ _ | exact hbw5.out | exact hbw7.out | refine below_drew1 ?_ | refine below_alloc ?_ _ | refine below_step ?_ hb7.out | refine below_step ?_ hb5.out))
                    · (repeat (first | exact Below.refl _ _ | exact hbw5.out | exact hbw7.out | refine below_drew1 ?_ | refine below_alloc ?_ _ | refine below_step ?_ hb7.out | refine below_step ?_ hb5.out))
                    · refine Below.size (B := wr.heap.size) ?_
                      (repeat (first | exact Below.refl _ _ | exact hbw5.out | exact hbw7.out | refine below_drew1 ?_ | refine below_alloc ?_ _ | refine below_step ?_ hb7.out | refine below_step ?_ hb5.out))
                    · refine Below.size (B := wr.heap.size) ?_
                      (repeat (first | exact Below.refl _ _ | exact hbw5.out | exact hbw7.out | refine below_drew1 ?_ | refine below_alloc ?_ _ | refine below_step ?_ hb7.out | refine below_step ?_ hb5.out))
                    · refine Below.size (B := wr.heap.size) ?_
                      (repeat (first | exact Below.refl _ _ | exact hbw5.out | exact hbw7.out | refine below_drew1 ?_ | refine below_alloc ?_ _ | refine below_step ?_ hb7.out | refine below_step ?_ hb5.out))
                  · (repeat (first | exact Below.refl _ _ | exact hbw5.out | exact hbw7.out | refine below_drew1 ?_ | refine below_alloc ?_ _ | refine below_step ?_ hb7.out | refine below_step ?_ hb5.out))
              case rest => as_aux_lemma =>
                obtain ⟨g2, rfl, HT, HBW⟩ := hcut
                have hn60 : n ≤ 60 := by omega
                have hln2 : S.length ≤ 1000 := by have := HL.out; omega
                cases bt
                · go_wp2_with (go_at_call 151; (with_reducible refine (paPut_zero HT.out HPS.out hn60 HE0.out hln2).mono ?_); rintro r w2 ⟨rfl, hs, hb⟩; rw [HBIT.out]; have nS := Aside0.mk (HS.out.below (HBW.out.trans hb)); have nB := Aside0.mk (below_step HB.out (HBW.out.trans hb)); clear HS HB HT HBW hs hb HE0; have HS := nS; have HB := nB; clear nS nB)
                  go_roundw
                  case rel => exact ⟨i + 1, by omega, by go_num, by rw [← HLAST.out]; rfl, HS, HB⟩
                  case measure => simp [intOf]; omega
                · go_wp2_with (go_at_call 151; (with_reducible refine (paPut_zero HT.out HPS.out hn60 HE0.out hln2).mono ?_); rintro r w2 ⟨rfl, hs, hb⟩; rw [HBIT.out]; have nS := Aside0.mk (HS.out.below (HBW.out.trans hb)); have nB := Aside0.mk (below_step HB.out (HBW.out.trans hb)); clear HS HB HT HBW hs hb HE0; have HS := nS; have HB := nB; clear nS nB)
                  go_roundw
                  case rel => exact ⟨i + 1, by omega, by go_num, by rw [← HLAST.out]; rfl, HS, HB⟩
                  case measure => simp [intOf]; omega
            · have ep : p % 2 ^ i = p := Nat.mod_eq_of_lt (by rw [show i = n by omega]; exact HO.out.pl)
              rw [ep]
              go_wp2
              go_ret3
              exact ⟨rfl, HB.out⟩
        | succ k =>
          rw [show ((k + 1 : Nat) : Int) - 1 = (k : Int) by omega]
          obtain ⟨hP, hpin, hlen⟩ := HI.out
          have hzn : (2 : Nat) ^ k < 2 ^ n := Nat.pow_lt_pow_right (by decide) (by omega)
          have hz16 : (2 : Nat) ^ n ≤ 2 ^ 16 := Nat.pow_le_pow_right (by decide) hn
          have hwz : wrap64 (2 ^ k) = ((2 ^ k : Nat) : Int) := by
            have h5 : (2 : Nat) ^ k < 65536 := by omega
            rw [← pow_cast]
            generalize 2 ^ k = z at h5 ⊢
            exact wrap_id (by omega) (by omega)
          have hpe : pin S k = if (paPut S (2 ^ k, 0)).2 = true then (paPut S (2 ^ k, 0)).1 else (paPut S (2 ^ k, 1)).1 := rfl
          have hs63 : n ≤ 63 := by omega
          have hk0 : ((2 ^ k, 0) : PEq).1 < 2 ^ n ∧ ((2 ^ k, 0) : PEq).2 < 2 := ⟨hzn, by simp⟩
          have hk1 : ((2 ^ k, 1) : PEq).1 < 2 ^ n ∧ ((2 ^ k, 1) : PEq).2 < 2 := ⟨hzn, by simp⟩
          have hq0 := put_sol hs63 hP hk0
          have hpp0 := psys_put hs63 hP hk0
          have hpp1 := psys_put hs63 hP hk1
          have hpin2 : pins (pin S k) k = pins S0 n := hpin
          have hlen2 : ∀ e : PEq, (paPut S e).1.length ≤ S.length + 1 := fun e => by
            unfold paPut
            split
            · exact Nat.le_succ _
            · rw [List.length_append, List.length_singleton]
              exact Nat.le_refl _
          have HL2 := Aside0.mk hlen2
          obtain ⟨z, hz⟩ : ∃ z : Nat, 2 ^ k = z := ⟨_, rfl⟩
          rw [hz] at hwz hpe hk0 hk1 hq0 hpp0 hpp1
          have HE0 := Aside0.mk hk0
          have HE1 := Aside0.mk hk1
          have HPP0 := Aside0.mk hpp0
          have HPP1 := Aside0.mk hpp1
          have HQ0 := Aside0.mk hq0.2.2
          have HPN := Aside0.mk hpin2
          have HPS := Aside0.mk hP
          have HPE := Aside0.mk hpe
          have hn60 : n ≤ 60 := by omega
          have hln2 : S.length ≤ 1000 := by omega
          clear hP hpin hpe hk0 hk1 hq0 hpp0 hpp1 hpin2 hlen2 HI hz hzn hz16
          obtain ⟨b0, hb0⟩ : ∃ b0, (paPut S (z, 0)).2 = b0 := ⟨_, rfl⟩
          have HB0 := Aside0.mk hb0
          clear hb0
          cases b0
          · go_wp2_with (first
              | (go_at_call 151; (with_reducible refine (paPut_zero HS.out HPS.out hn60 HE0.out hln2).mono ?_); rintro r w2 ⟨rfl, hs, hb⟩; rw [HB0.out]; rw [HQ0.out HB0.out] at hs; have nS := Aside0.mk hs; have nB := Aside0.mk (HB.out.trans hb); clear HS HB hs hb HE0; have HS := nS; have HB := nB; clear nS nB)
              | (go_at_call 151; (with_reducible refine (paPut_one HS.out HPS.out hn60 HE1.out hln2).mono ?_); rintro r w3 ⟨rfl, hs, hb⟩; have nS := Aside0.mk hs; have nB := Aside0.mk (HB.out.trans hb); clear HS HB hs hb; have HS := nS; have HB := nB; clear nS nB))
            go_roundw
            case rel => exact ⟨k, (paPut S (z, 1)).1, by omega, by go_num, HS, HB, ⟨HPP1.out, by have h := HPN.out; rw [HPE.out, HB0.out, if_neg (by decide)] at h; exact h, by have := HL2.out (z, 1); omega⟩⟩
            case measure => simp [intOf]
          · go_wp2_with (go_at_call 151; (with_reducible refine (paPut_zero HS.out HPS.out hn60 HE0.out hln2).mono ?_); rintro r w2 ⟨rfl, hs, hb⟩; rw [HB0.out]; have nS := Aside0.mk hs; have nB := Aside0.mk (HB.out.trans hb); clear HS HB hs hb HE0; have HS := nS; have HB := nB; clear nS nB)
            go_roundw
            case rel => exact ⟨k, (paPut S (z, 0)).1, by omega, by go_num, HS, HB, ⟨HPP0.out, by have h := HPN.out; rw [HPE.out, HB0.out, if_pos rfl] at h; exact h, by have := HL2.out (z, 0); omega⟩⟩
            case measure => simp [intOf]
end Go.Proofs.YtlohlngmagpepaaGreat.Draw
