/- What the functions of FnSolvedOrRefused compute, in plain words. -/
import Derived.Test.YtlioggjncgfioaaPFnSolvedOrRefusedx
import Derived.Test.YtlioggjncgfioaaM1
import Derived.Test.YtlioggjncgfioaaM2
import Derived.Test.YtlioggjncgfioaaM3
import Derived.Test.YtlioggjncgfioaaM4
import Derived.Test.YtlioggjncgfioaaM5
import Derived.Test.YtlioggjncgfioaaM6
import Derived.Test.YtlioggjncgfioaaM7
import Derived.Test.YtlioggjncgfioaaM8
import Derived.Test.YtlioggjncgfioaaM9
import Derived.Test.YtlioggjncgfioaaM10
import Derived.Test.YtlioggjncgfioaaM12
import Derived.Test.YtlioggjncgfioaaM15
import Derived.Test.YtlioggjncgfioaaM17
import Derived.Test.YtlioggjncgfioaaM20
import Derived.Test.YtlioggjncgfioaaM21
import Derived.Test.YtlioggjncgfioaaM22
import Derived.Test.YtlioggjncgfioaaM23
import Derived.Test.YtlioggjncgfioaaM25
import Derived.Test.YtlioggjncgfioaaM26
import Derived.Test.YtlioggjncgfioaaM27
import Derived.Test.YtlioggjncgfioaaQFnSolvedOrRefused0
namespace Go.Proofs.Ytlioggjncgfioaa.Pure
open Go.RowKit Go.Proofs.Ytlioggjncgfioaa.PFnSolvedOrRefused Go.Proofs.YtlioggjncgfioaaW.PrintWords Go.Proofs.YtlioggjncgfioaaW.PrintLast Go.Proofs.YtlioggjncgfioaaW.PrintMore Go.Proofs.YtlioggjncgfioaaM
set_option linter.unusedVariables false
set_option linter.unusedSimpArgs false
/-! spec_soQuiet -/
theorem spec_soQuiet.inner (n : Nat) (p q : List Nat) (l : List Int) (own : Bool) (j : Int) (hp : ∀ b ∈ p, b < 2 ^ 62 ∧ b ≠ 0) (hn : p.length ≤ 1048576) (R : List Int) : ∀ (i s : Nat), i ≤ p.length → s < 2 ^ 62 → Ev (fun k => spec_soQuiet.l1 k (n : Int) (ints p) (ints q) ((red (p.take i) s : Nat) : Int) (-1) (n : Int) j l own) R →
    Ev (fun k => spec_soQuiet.l1 k (n : Int) (ints p) (ints q) (s : Int) ((i : Int) - 1) (n : Int) j l own) R
  | 0, s, _, _, h => by simpa [red] using h
  | i + 1, s, hi, hs, h => by
    have hb := hp p[i] (List.getElem_mem (by omega))
    have h1 := blen_ne hb.2
    have e0 : red (p.take (i + 1)) s = red (p.take i) (redOne s p[i]) := by
      rw [List.take_succ_eq_append_getElem (by omega)]
      unfold red
      rw [List.foldr_append]
      rfl
    rw [e0] at h
    have ih := spec_soQuiet.inner n p q l own j hp hn R i (redOne s p[i]) (by omega) (redOne_lt hs hb.1) h
    obtain ⟨K, hK⟩ := ev_and (spec_soTop.ev p[i] (by omega)) ih
    refine ⟨K + 1, fun k hk => ?_⟩
    obtain ⟨m, rfl⟩ : ∃ m, k = m + 1 := ⟨k - 1, by omega⟩
    obtain ⟨c1, c2⟩ := hK m (by omega)
    have e1 : bit (s : Int) (pdeg p[i]) = s.testBit (blen p[i] - 1) := by
      unfold bit pdeg
      rw [show ((blen p[i] : Int) - 1).toNat = blen p[i] - 1 by omega]
      rfl
    show spec_soQuiet.l1 (m + 1) (n : Int) (ints p) (ints q) (s : Int) (((i + 1 : Nat) : Int) - 1) (n : Int) j l own = _
    simp only [spec_soQuiet.l1]
    rw [show (((i + 1 : Nat) : Int) - 1) = (i : Int) by omega, if_pos (by omega), if_pos (by omega), if_pos (by rw [ints_length]; omega), ints_get p i (by omega), c1, Option.bind_some, spec_grIn.eq (s : Int) (pdeg p[i]) (by omega) (by omega) (by unfold pdeg; omega), Option.bind_some, e1, wrap_id (by omega) (by omega)]
    by_cases e : s.testBit (blen p[i] - 1) = true
    · have er : redOne s p[i] = s ^^^ p[i] := if_pos e
      rw [er] at c2
      rw [if_pos e, xor_nat s p[i] (by omega) (by omega)]
      exact c2
    · have er : redOne s p[i] = s := if_neg e
      rw [er] at c2
      rw [if_neg e]
      exact c2
theorem spec_soQuiet.outer (l : List Int) (own : Bool) (hG : GoodG l) : ∀ (d i : Nat) (p q : List Nat), i + d = l.length → Small2 i p q → Ev (fun k => spec_soQuiet.l0 k (l.length : Int) (ints p) (ints q) (l.length : Int) (i : Int) l own) (ints (soGo l.length (pks l own i d) (p, q)).2)
  | 0, i, p, q, hd, h => by
    refine now fun k => ?_
    simp only [spec_soQuiet.l0]
    rw [if_neg (by omega)]
    rfl
  | d + 1, i, p, q, hd, h => by
    have hn := hG.top
    have hi : i < l.length := by omega
    have hs := pkOf_lt hG own hi
    have hpl := h.pl
    have hql := h.ql
    have hstep := small2_step (n := l.length) h hs
    have ih := spec_soQuiet.outer l own hG d (i + 1) _ _ (by omega) hstep
    have hr := red_lt p _ h.ps hs
    have htb := togg_bounds l own hG i hi
    have hc := pow_cast l.length
    have h16 : (2 : Nat) ^ l.length ≤ 2 ^ 16 := Nat.pow_le_pow_right (by decide) hn
    have hsh : (togg l own i).toNat * 2 ^ l.length < 2 ^ 32 := by
      have h4 : (togg l own i).toNat * 2 ^ l.length < 2 ^ l.length * 2 ^ l.length := Nat.mul_lt_mul_of_pos_right (by omega) (Nat.two_pow_pos _)
      rw [← Nat.pow_add] at h4
      exact Nat.lt_of_lt_of_le h4 (Nat.pow_le_pow_right (by decide) (by omega))
    have hpi : (2 : Nat) ^ i < 2 ^ 16 := Nat.pow_lt_pow_right (by decide) (by omega)
    have hpi2 : (2 : Nat) ^ i < 2 ^ l.length := Nat.pow_lt_pow_right (by decide) hi
    have hval : Go.bits .or .i64 (shl .i64 (togg l own i) (l.length : Int)) (shl .i64 1 (i : Int)) = ((pkOf l own i : Nat) : Int) := by
      have e1 := shl_nat (togg l own i).toNat l.length (by omega) (by omega)
      rw [show (((togg l own i).toNat : Nat) : Int) = togg l own i by omega] at e1
      rw [e1, shl_one (by omega) (by omega), Int.toNat_natCast, or_nat _ _ (by rw [Nat.shiftLeft_eq]; omega) (by omega), Nat.or_comm, or_shift hpi2]
      rfl
    have hfin : Ev (fun k => spec_soQuiet.l1 k (l.length : Int) (ints p) (ints q) ((red (p.take p.length) (pkOf l own i) : Nat) : Int) (-1) (l.length : Int) (i : Int) l own) (ints (soGo l.length (pks l own (i + 1) d) (soStep l.length (p, q) (pkOf l own i))).2) := by
      rw [List.take_length]
      have hsr := shr_nat (red p (pkOf l own i)) l.length (by omega)
      unfold soStep at ih ⊢
      by_cases e : red p (pkOf l own i) >>> l.length = 0
      · rw [if_pos e] at ih ⊢
        obtain ⟨K, hK⟩ := ev_and (spec_soPut.ev q (red p (pkOf l own i)) (by omega) (fun b hb => by have := h.qs b hb; omega) h.qb (by omega)) ih
        refine ⟨K + 1, fun k hk => ?_⟩
        obtain ⟨m, rfl⟩ : ∃ m, k = m + 1 := ⟨k - 1, by omega⟩
        obtain ⟨c1, c2⟩ := hK m (by omega)
        show spec_soQuiet.l1 (m + 1) _ _ _ _ _ _ _ _ _ = _
        simp only [spec_soQuiet.l1]
        rw [if_neg (by omega), if_pos (by omega), hsr, e, if_pos (show ((0 : Nat) : Int) = 0 from rfl), c1, Option.bind_some, wrap_succ i (by omega)]
        exact c2
      · rw [if_neg e] at ih ⊢
        obtain ⟨K, hK⟩ := ev_and (spec_soPut.ev p (red p (pkOf l own i)) (by omega) (fun b hb => by have := h.ps b hb; omega) h.pb (by omega)) ih
        refine ⟨K + 1, fun k hk => ?_⟩
        obtain ⟨m, rfl⟩ : ∃ m, k = m + 1 := ⟨k - 1, by omega⟩
        obtain ⟨c1, c2⟩ := hK m (by omega)
        show spec_soQuiet.l1 (m + 1) _ _ _ _ _ _ _ _ _ = _
        simp only [spec_soQuiet.l1]
        rw [if_neg (by omega), if_pos (by omega), hsr, if_neg (fun g => e (Int.ofNat_eq_zero.1 g)), c1, Option.bind_some, wrap_succ i (by omega)]
        exact c2
    have hin := spec_soQuiet.inner l.length p q l own (i : Int) (fun b hb => ⟨by have := h.ps b hb; omega, h.pb.pos b hb⟩) (by omega) _ p.length (pkOf l own i) (Nat.le_refl _) (by omega) hfin
    rw [pks_succ, soGo]
    obtain ⟨K, hK⟩ := hin
    refine ⟨K + 1, fun k hk => ?_⟩
    obtain ⟨m, rfl⟩ : ∃ m, k = m + 1 := ⟨k - 1, by omega⟩
    have c := hK m (by omega)
    show spec_soQuiet.l0 (m + 1) _ _ _ _ _ _ _ = _
    simp only [spec_soQuiet.l0]
    rw [if_pos (by omega), spec_grToggles.eq l own hG i hi, Option.bind_some, if_pos (by omega), if_pos (by omega), hval, ints_length, wrap_id (by omega) (by omega)]
    exact c
theorem spec_soQuiet.ev (l : List Int) (own : Bool) (hG : GoodG l) : Ev (fun k => spec_soQuiet.f k l own) (ints (soQuietN l own)) := by
  have h := spec_soQuiet.outer l own hG l.length 0 [] [] (by omega) small2_new
  exact h

/-! spec_soSolve -/
theorem spec_soSolve.inner (y : Int) (n : Nat) (p : List Nat) (l : List Int) (own : Bool) (j : Int) (hp : ∀ b ∈ p, b < 2 ^ 62 ∧ b ≠ 0) (hn : p.length ≤ 1048576) (R : Int × Bool) : ∀ (i s : Nat), i ≤ p.length → s < 2 ^ 62 → Ev (fun k => spec_soSolve.l1 k y (n : Int) (ints p) ((red (p.take i) s : Nat) : Int) (-1) (n : Int) j l own) R →
    Ev (fun k => spec_soSolve.l1 k y (n : Int) (ints p) (s : Int) ((i : Int) - 1) (n : Int) j l own) R
  | 0, s, _, _, h => by simpa [red] using h
  | i + 1, s, hi, hs, h => by
    have hb := hp p[i] (List.getElem_mem (by omega))
    have h1 := blen_ne hb.2
    have e0 : red (p.take (i + 1)) s = red (p.take i) (redOne s p[i]) := by
      rw [List.take_succ_eq_append_getElem (by omega)]
      unfold red
      rw [List.foldr_append]
      rfl
    rw [e0] at h
    have ih := spec_soSolve.inner y n p l own j hp hn R i (redOne s p[i]) (by omega) (redOne_lt hs hb.1) h
    obtain ⟨K, hK⟩ := ev_and (spec_soTop.ev p[i] (by omega)) ih
    refine ⟨K + 1, fun k hk => ?_⟩
    obtain ⟨m, rfl⟩ : ∃ m, k = m + 1 := ⟨k - 1, by omega⟩
    obtain ⟨c1, c2⟩ := hK m (by omega)
    have e1 : bit (s : Int) (pdeg p[i]) = s.testBit (blen p[i] - 1) := by
      unfold bit pdeg
      rw [show ((blen p[i] : Int) - 1).toNat = blen p[i] - 1 by omega]
      rfl
    show spec_soSolve.l1 (m + 1) y (n : Int) (ints p) (s : Int) (((i + 1 : Nat) : Int) - 1) (n : Int) j l own = _
    simp only [spec_soSolve.l1]
    rw [show (((i + 1 : Nat) : Int) - 1) = (i : Int) by omega, if_pos (by omega), if_pos (by omega), if_pos (by rw [ints_length]; omega), ints_get p i (by omega), c1, Option.bind_some, spec_grIn.eq (s : Int) (pdeg p[i]) (by omega) (by omega) (by unfold pdeg; omega), Option.bind_some, e1, wrap_id (by omega) (by omega)]
    by_cases e : s.testBit (blen p[i] - 1) = true
    · have er : redOne s p[i] = s ^^^ p[i] := if_pos e
      rw [er] at c2
      rw [if_pos e, xor_nat s p[i] (by omega) (by omega)]
      exact c2
    · have er : redOne s p[i] = s := if_neg e
      rw [er] at c2
      rw [if_neg e]
      exact c2
theorem spec_soSolve.outer (l : List Int) (own : Bool) (hG : GoodG l) (y : Nat) (hy : y < 2 ^ l.length) : ∀ (d i : Nat) (p q : List Nat), i + d = l.length → Small2 i p q → Ev (fun k => spec_soSolve.l0 k (y : Int) (l.length : Int) (ints p) (l.length : Int) (i : Int) l own) (if red (soGo l.length (pks l own i d) (p, q)).1 (y <<< l.length) >>> l.length = 0 then ((red (soQuietN l own) (red (soGo l.length (pks l own i d) (p, q)).1 (y <<< l.length)) : Int), true) else ((0 : Int), false))
  | 0, i, p, q, hd, h => by
    have hn := hG.top
    have hpl := h.pl
    have hc : y * 2 ^ l.length < 2 ^ 32 := by
      have h4 : y * 2 ^ l.length < 2 ^ l.length * 2 ^ l.length := Nat.mul_lt_mul_of_pos_right hy (Nat.two_pow_pos _)
      rw [← Nat.pow_add] at h4
      exact Nat.lt_of_lt_of_le h4 (Nat.pow_le_pow_right (by decide) (by omega))
    have hys : y <<< l.length < 2 ^ 32 := by rw [Nat.shiftLeft_eq]; exact hc
    have hr := red_lt p _ h.ps hys
    have hq2 := soN_inv (l := l) own
    have h16 : (2 : Nat) ^ l.length ≤ 2 ^ 16 := Nat.pow_le_pow_right (by decide) hn
    have hql : (soQuietN l own).length ≤ 1048576 := by
      have h1 := (inv_graph hG own).rq
      have h2 := (togs_ints l own hG).2.1
      rw [soQuiet_sv hG own]
      show (svOf (togs l own)).quiet.length ≤ 1048576
      omega
    obtain ⟨K1, hK1⟩ := ev_and (spec_soReduce.ev p (fun b hb => ⟨by have := h.ps b hb; omega, h.pb.pos b hb⟩) (by omega) (y <<< l.length) (by omega)) (spec_soQuiet.ev l own hG)
    obtain ⟨K2, hK2⟩ := spec_soReduce.ev (soQuietN l own) (fun b hb => ⟨by have := ((hq2.qs b).1 (Sp.one hb)).1; omega, hq2.qb.pos b hb⟩) hql (red p (y <<< l.length)) (by omega)
    refine ⟨K1 + K2 + 1, fun k hk => ?_⟩
    obtain ⟨m, rfl⟩ : ∃ m, k = m + 1 := ⟨k - 1, by omega⟩
    obtain ⟨c1, c2⟩ := hK1 m (by omega)
    have c3 : spec_soReduce.f m (ints (soQuietN l own)) ((red p (y <<< l.length) : Nat) : Int) = _ := hK2 m (by omega)
    show spec_soSolve.l0 (m + 1) _ _ _ _ _ _ _ = _
    simp only [spec_soSolve.l0]
    have hsr := shr_nat (red p (y <<< l.length)) l.length (by omega)
    rw [if_neg (by omega), if_pos (by omega), shl_nat y l.length (by omega) (by omega), c1, Option.bind_some, hsr]
    show _ = some (if red p (y <<< l.length) >>> l.length = 0 then _ else _)
    by_cases e : red p (y <<< l.length) >>> l.length = 0
    · rw [e, if_neg (by decide), if_pos rfl, c2, Option.bind_some, c3, Option.bind_some]
      rfl
    · rw [if_pos (Int.natCast_pos.2 (Nat.pos_of_ne_zero e)), if_neg e]
  | d + 1, i, p, q, hd, h => by
    have hn := hG.top
    have hi : i < l.length := by omega
    have hs := pkOf_lt hG own hi
    have hpl := h.pl
    have hql := h.ql
    have hstep := small2_step (n := l.length) h hs
    have ih := spec_soSolve.outer l own hG y hy d (i + 1) _ _ (by omega) hstep
    have hr := red_lt p _ h.ps hs
    have htb := togg_bounds l own hG i hi
    have hc := pow_cast l.length
    have h16 : (2 : Nat) ^ l.length ≤ 2 ^ 16 := Nat.pow_le_pow_right (by decide) hn
    have hsh : (togg l own i).toNat * 2 ^ l.length < 2 ^ 32 := by
      have h4 : (togg l own i).toNat * 2 ^ l.length < 2 ^ l.length * 2 ^ l.length := Nat.mul_lt_mul_of_pos_right (by omega) (Nat.two_pow_pos _)
      rw [← Nat.pow_add] at h4
      exact Nat.lt_of_lt_of_le h4 (Nat.pow_le_pow_right (by decide) (by omega))
    have hpi : (2 : Nat) ^ i < 2 ^ 16 := Nat.pow_lt_pow_right (by decide) (by omega)
    have hpi2 : (2 : Nat) ^ i < 2 ^ l.length := Nat.pow_lt_pow_right (by decide) hi
    have hval : Go.bits .or .i64 (shl .i64 (togg l own i) (l.length : Int)) (shl .i64 1 (i : Int)) = ((pkOf l own i : Nat) : Int) := by
      have e1 := shl_nat (togg l own i).toNat l.length (by omega) (by omega)
      rw [show (((togg l own i).toNat : Nat) : Int) = togg l own i by omega] at e1
      rw [e1, shl_one (by omega) (by omega), Int.toNat_natCast, or_nat _ _ (by rw [Nat.shiftLeft_eq]; omega) (by omega), Nat.or_comm, or_shift hpi2]
      rfl
    have hfin : Ev (fun k => spec_soSolve.l1 k (y : Int) (l.length : Int) (ints p) ((red (p.take p.length) (pkOf l own i) : Nat) : Int) (-1) (l.length : Int) (i : Int) l own) (if red (soGo l.length (pks l own (i + 1) d) (soStep l.length (p, q) (pkOf l own i))).1 (y <<< l.length) >>> l.length = 0 then ((red (soQuietN l own) (red (soGo l.length (pks l own (i + 1) d) (soStep l.length (p, q) (pkOf l own i))).1 (y <<< l.length)) : Int), true) else ((0 : Int), false)) := by
      rw [List.take_length]
      have hsr := shr_nat (red p (pkOf l own i)) l.length (by omega)
      unfold soStep at ih ⊢
      by_cases e : red p (pkOf l own i) >>> l.length = 0
      · rw [if_pos e] at ih ⊢
        obtain ⟨K, hK⟩ := ih
        refine ⟨K + 1, fun k hk => ?_⟩
        obtain ⟨m, rfl⟩ : ∃ m, k = m + 1 := ⟨k - 1, by omega⟩
        have c2 := hK m (by omega)
        show spec_soSolve.l1 (m + 1) _ _ _ _ _ _ _ _ _ = _
        simp only [spec_soSolve.l1]
        rw [if_neg (by omega), if_pos (by omega), hsr, e, if_neg (by decide), wrap_succ i (by omega)]
        exact c2
      · rw [if_neg e] at ih ⊢
        obtain ⟨K, hK⟩ := ev_and (spec_soPut.ev p (red p (pkOf l own i)) (by omega) (fun b hb => by have := h.ps b hb; omega) h.pb (by omega)) ih
        refine ⟨K + 1, fun k hk => ?_⟩
        obtain ⟨m, rfl⟩ : ∃ m, k = m + 1 := ⟨k - 1, by omega⟩
        obtain ⟨c1, c2⟩ := hK m (by omega)
        show spec_soSolve.l1 (m + 1) _ _ _ _ _ _ _ _ _ = _
        simp only [spec_soSolve.l1]
        rw [if_neg (by omega), if_pos (by omega), hsr, if_pos (Int.natCast_pos.2 (Nat.pos_of_ne_zero e)), c1, Option.bind_some, wrap_succ i (by omega)]
        exact c2
    have hin := spec_soSolve.inner (y : Int) l.length p l own (i : Int) (fun b hb => ⟨by have := h.ps b hb; omega, h.pb.pos b hb⟩) (by omega) _ p.length (pkOf l own i) (Nat.le_refl _) (by omega) hfin
    rw [pks_succ, soGo]
    obtain ⟨K, hK⟩ := hin
    refine ⟨K + 1, fun k hk => ?_⟩
    obtain ⟨m, rfl⟩ : ∃ m, k = m + 1 := ⟨k - 1, by omega⟩
    have c := hK m (by omega)
    show spec_soSolve.l0 (m + 1) _ _ _ _ _ _ _ = _
    simp only [spec_soSolve.l0]
    rw [if_pos (by omega), spec_grToggles.eq l own hG i hi, Option.bind_some, if_pos (by omega), if_pos (by omega), hval, ints_length, wrap_id (by omega) (by omega)]
    exact c
theorem spec_soSolve.ev (l : List Int) (own : Bool) (hG : GoodG l) (y : Nat) (hy : y < 2 ^ l.length) : Ev (fun k => spec_soSolve.f k l own (y : Int)) (if (reach (svG l own).ps y).1 = 0 then ((red (svG l own).quiet (reach (svG l own).ps y).2 : Int), true) else ((0 : Int), false)) := by
  have h := spec_soSolve.outer l own hG y hy l.length 0 [] [] (by omega) small2_new
  rw [← soSolve_sv hG own hy]
  exact h

/-! spec_SolveBoard -/
theorem spec_SolveBoard.ev (l : List Int) (own : Bool) (s : Int) (h : l.length < 4611686018427387904) : Ev (fun k => spec_SolveBoard.f k l own s) (solveR l own s) := by
  obtain ⟨K, hK⟩ := spec_grSet.ev l own s h
  unfold solveR boardOk
  cases e : (good l && inSet l.length s)
  · refine ⟨K, fun k hk => ?_⟩
    have h1 : spec_grSet.f k l own s = _ := hK k hk
    show spec_SolveBoard.f k l own s = _
    unfold spec_SolveBoard.f
    rw [h1, Option.bind_some, e]
    rfl
  · obtain ⟨hG, hs⟩ := boardOk_of (l := l) (s := s) e
    obtain ⟨h0, h1, h2⟩ := inSet_lt hs
    obtain ⟨K2, hK2⟩ := spec_soSolve.ev l own hG s.toNat h1
    refine ⟨K + K2, fun k hk => ?_⟩
    have c1 : spec_grSet.f k l own s = _ := hK k (by omega)
    have c2 : spec_soSolve.f k l own (s.toNat : Int) = _ := hK2 k (by omega)
    rw [← h2] at c2
    show spec_SolveBoard.f k l own s = _
    unfold spec_SolveBoard.f
    rw [c1, Option.bind_some, e, if_pos rfl, c2, Option.bind_some]
    rfl

/-! impl_count -/
theorem impl_count.eq (x : Int) (h0 : 0 ≤ x) (h1 : x < 65536) : impl_count.f x = some ((pop x.toNat : Nat) : Int) := by
  obtain ⟨n, rfl⟩ : ∃ n : Nat, x = n := ⟨x.toNat, by omega⟩
  unfold impl_count.f
  rw [uwrap_id n (by omega), bits_OnesCount.eq n (by omega), Int.toNat_natCast]
  rfl

/-! impl_odd -/
theorem impl_odd.eq (x y : Int) (h0 : 0 ≤ x) (h1 : x < 65536) (g0 : 0 ≤ y) (g1 : y < 65536) : impl_odd.f x y = some ((pop (x.toNat &&& y.toNat)) % 2 == 1) := by
  unfold impl_odd.f
  have hle : x.toNat &&& y.toNat ≤ x.toNat := Nat.and_le_left
  rw [and_eq h0 (by omega) g0 (by omega), impl_count.eq ((x.toNat &&& y.toNat : Nat) : Int) (Int.natCast_nonneg _) (by omega), Int.toNat_natCast, Option.bind_some, Int.tmod_eq_emod_of_nonneg (Int.natCast_nonneg _)]
  congr 1
  rw [Bool.eq_iff_iff]
  simp only [beq_iff_eq]
  omega

/-! spec_grCount -/
theorem spec_grCount.loop : ∀ (k : Nat) (x : Nat) (o : Int), k ≤ 63 → x < 2 ^ k → 0 ≤ o → o + 64 < 9223372036854775807 → o ≤ 63 - k → Ev (fun n => spec_grCount.l0 n (x : Int) o) (o + (cnt k x : Nat))
  | 0, x, o, _, hx, h0, h1, _ => by
    have : x = 0 := by omega
    subst this
    refine now fun k => ?_
    simp only [spec_grCount.l0]
    rw [if_neg (by decide)]
    simp [cnt]
  | k + 1, x, o, hk, hx, h0, h1, h2 => by
    by_cases e : x = 0
    · subst e
      refine now fun k => ?_
      simp only [spec_grCount.l0]
      rw [if_neg (by decide), cnt_zero]
      simp
    · have hx2 : x / 2 < 2 ^ k := by rw [Nat.pow_succ] at hx; omega
      have h63 : x < 2 ^ 63 := Nat.lt_of_lt_of_le hx (Nat.pow_le_pow_right (by decide) hk)
      have ih := spec_grCount.loop k (x / 2) (o + ((x % 2 : Nat) : Int)) (by omega) hx2 (by omega) (by omega) (by omega)
      rw [cnt, show o + ((x % 2 + cnt k (x / 2) : Nat) : Int) = o + ((x % 2 : Nat) : Int) + ((cnt k (x / 2) : Nat) : Int) by omega]
      refine Ev.step (f := fun n => spec_grCount.l0 n ((x / 2 : Nat) : Int) (o + ((x % 2 : Nat) : Int))) (fun n => ?_) ih
      simp only [spec_grCount.l0]
      rw [if_pos (by omega), Int.tdiv_eq_ediv_of_nonneg (by omega), Int.tmod_eq_emod_of_nonneg (by omega), wrap_id (by omega) (by omega), wrap_id (by omega) (by omega)]
      norm_cast
theorem spec_grCount.ev (x : Int) (h0 : 0 ≤ x) (h1 : x < 2 ^ 63) : Ev (fun k => spec_grCount.f k x) ((pop x.toNat : Nat) : Int) := by
  have := spec_grCount.loop 63 x.toNat 0 (by omega) (by omega) (by omega) (by omega) (by omega)
  rw [Int.toNat_of_nonneg h0, Int.zero_add] at this
  rw [pop_cnt 63 x.toNat (by omega)]
  exact this

/-! spec_WitnessOf -/
theorem spec_WitnessOf.loop (q : List Nat) (y : Nat) (hq : ∀ b ∈ q, b < 65536) (hl : q.length ≤ 1000) (hy : y < 65536) : ∀ (d i : Nat), i + d = q.length → Ev (fun k => spec_WitnessOf.l0 k (y : Int) (ints q) (q.length : Int) (i : Int)) (match (q.drop i).find? fun b => oddm b y with
    | some b => ((b : Int), true)
    | none => ((0 : Int), false))
  | 0, i, hd => by
    refine now fun k => ?_
    simp only [spec_WitnessOf.l0]
    rw [if_neg (by omega), List.drop_eq_nil_of_le (by omega)]
    rfl
  | d + 1, i, hd => by
    have hi : i < q.length := by omega
    have hb := hq q[i] (List.getElem_mem hi)
    have hand : q[i] &&& y < 65536 := Nat.lt_of_le_of_lt Nat.and_le_left hb
    obtain ⟨K, hK⟩ := ev_and (spec_grCount.ev ((q[i] &&& y : Nat) : Int) (by omega) (by omega)) (spec_WitnessOf.loop q y hq hl hy d (i + 1) (by omega))
    refine ⟨K + 1, fun k hk => ?_⟩
    obtain ⟨m, rfl⟩ : ∃ m, k = m + 1 := ⟨k - 1, by omega⟩
    obtain ⟨c1, c2⟩ := hK m (by omega)
    rw [Int.toNat_natCast] at c1
    rw [List.drop_eq_getElem_cons hi, List.find?_cons]
    show spec_WitnessOf.l0 (m + 1) (y : Int) (ints q) (q.length : Int) (i : Int) = _
    simp only [spec_WitnessOf.l0]
    rw [if_pos (by omega), if_pos (by omega), if_pos (by rw [ints_length]; omega), ints_get q i hi, and_nat _ _ (by omega) (by omega), c1, Option.bind_some]
    have et : Int.tmod ((pop (q[i] &&& y) : Nat) : Int) 2 = ((pop (q[i] &&& y) % 2 : Nat) : Int) := rfl
    rw [et]
    by_cases e : pop (q[i] &&& y) % 2 = 1
    · have e2 : oddm q[i] y = true := by unfold oddm; rw [e]; rfl
      rw [e2, if_pos (by rw [e]; rfl)]
    · have e2 : oddm q[i] y = false := by unfold oddm; exact decide_eq_false e
      rw [e2, if_neg (by omega), wrap_succ i (by omega)]
      exact c2
theorem spec_WitnessOf.ev (l : List Int) (own : Bool) (s : Int) (h : l.length < 4611686018427387904) : Ev (fun k => spec_WitnessOf.f k l own s) (witR l own s) := by
  obtain ⟨K, hK⟩ := spec_grSet.ev l own s h
  unfold witR boardOk
  cases e : (good l && inSet l.length s)
  · refine ⟨K, fun k hk => ?_⟩
    have h1 : spec_grSet.f k l own s = _ := hK k hk
    show spec_WitnessOf.f k l own s = _
    unfold spec_WitnessOf.f
    rw [h1, Option.bind_some, e]
    rfl
  · obtain ⟨hG, hs⟩ := boardOk_of (l := l) (s := s) e
    obtain ⟨h0, h1, h2⟩ := inSet_lt hs
    have hI := inv_graph hG own
    have hn := hG.top
    have hrq := hI.rq
    have h16 : (2 : Nat) ^ l.length ≤ 2 ^ 16 := Nat.pow_le_pow_right (by decide) hn
    obtain ⟨K2, hK2⟩ := ev_and (spec_soQuiet.ev l own hG) (spec_WitnessOf.loop (svG l own).quiet s.toNat (fun b hb => by have := ((hI.qs b).1 (Sp.one hb)).1; omega) (by show (svOf (togs l own)).quiet.length ≤ 1000; omega) (by omega) (svG l own).quiet.length 0 (by omega))
    refine ⟨K + K2, fun k hk => ?_⟩
    have c1 : spec_grSet.f k l own s = _ := hK k (by omega)
    obtain ⟨c2, c3⟩ := hK2 k (by omega)
    rw [soQuiet_sv hG own] at c2
    rw [← h2] at c3
    show spec_WitnessOf.f k l own s = _
    unfold spec_WitnessOf.f
    rw [c1, Option.bind_some, e, if_pos rfl, c2, Option.bind_some, ints_length]
    exact c3

/-! spec_soImage -/
theorem spec_soImage.loop (l : List Int) (own : Bool) (hG : GoodG l) : ∀ (d i : Nat) (b : List Nat), i + d = l.length → b = puts [] ((togs l own).take i) → Ev (fun k => spec_soImage.l0 k (ints b) (l.length : Int) (i : Int) l own) (ints (puts [] (togs l own)))
  | 0, i, b, hd, hb => by
    have htl := (togs_ints l own hG).2.1
    rw [List.take_of_length_le (by omega)] at hb
    refine now fun k => ?_
    simp only [spec_soImage.l0]
    rw [if_neg (by omega), hb]
  | d + 1, i, b, hd, hb => by
    obtain ⟨_, htl, htb⟩ := togs_ints l own hG
    have hi : i < (togs l own).length := by omega
    have h62 : (2 : Nat) ^ l.length < 2 ^ 62 := Nat.pow_lt_pow_right (by decide) (by have := hG.top; omega)
    have hB : Basis b := by rw [hb]; exact puts_basis _ basis_nil
    have hlo : ∀ x ∈ b, x < 2 ^ 62 := by rw [hb]; exact puts_lt _ (fun x hx => by simp at hx) (fun x hx => Nat.lt_trans (htb x (List.mem_of_mem_take hx)) h62)
    have hbl : b.length ≤ 1000 := by
      have h1 := puts_length_le ((togs l own).take i) []
      rw [← hb] at h1
      have := hG.top
      simp at h1
      omega
    have hv : (togs l own)[i] = (togg l own i).toNat := by simp [togs, toggles]
    have htg := togg_bounds l own hG i (by omega)
    obtain ⟨K, hK⟩ := ev_and (spec_soPut.ev b (togs l own)[i] (Nat.lt_trans (htb _ (List.getElem_mem hi)) h62) hlo hB (by omega)) (spec_soImage.loop l own hG d (i + 1) (put b (togs l own)[i]) (by omega) (by rw [List.take_succ_eq_append_getElem hi, hb]; unfold puts; rw [List.foldl_append]; rfl))
    refine ⟨K + 1, fun k hk => ?_⟩
    obtain ⟨m, rfl⟩ : ∃ m, k = m + 1 := ⟨k - 1, by omega⟩
    obtain ⟨c1, c2⟩ := hK m (by omega)
    rw [hv, show (((togg l own i).toNat : Nat) : Int) = togg l own i by omega] at c1
    show spec_soImage.l0 (m + 1) (ints b) (l.length : Int) (i : Int) l own = _
    simp only [spec_soImage.l0]
    rw [if_pos (by omega), spec_grToggles.eq l own hG i (by omega), Option.bind_some, c1, Option.bind_some, wrap_succ i (by have := hG.top; omega), ← hv]
    exact c2
theorem spec_soImage.ev (l : List Int) (own : Bool) (hG : GoodG l) : Ev (fun k => spec_soImage.f k l own) (ints (svG l own).image) := by
  have h := spec_soImage.loop l own hG l.length 0 [] (by omega) rfl
  rw [image_sv] at h
  exact h

/-! spec_soCan -/
theorem spec_soCan.ev (l : List Int) (own : Bool) (hG : GoodG l) (y : Nat) (hy : y < 2 ^ l.length) : Ev (fun k => spec_soCan.f k l own (y : Int)) (decide ((reach (svG l own).ps y).1 = 0)) := by
  have h1 := inv_graph hG own
  have h16 : (2 : Nat) ^ l.length ≤ 2 ^ 16 := Nat.pow_le_pow_right (by decide) hG.top
  have hlt := inv_image_lt (sym_graph hG own) h1
  have hil : (svG l own).image.length ≤ 1048576 := by
    have g1 := h1.rq
    have g2 := h1.ri
    have g3 := hG.top
    show (svOf (togs l own)).image.length ≤ 1048576
    omega
  obtain ⟨K, hK⟩ := ev_and (spec_soImage.ev l own hG) (spec_soReduce.ev (svG l own).image (fun b hb => ⟨by have := hlt b hb; omega, h1.ib.pos b hb⟩) hil y (by omega))
  refine ⟨K, fun k hk => ?_⟩
  obtain ⟨c1, c2⟩ := hK k hk
  show spec_soCan.f k l own (y : Int) = _
  unfold spec_soCan.f
  rw [c1, Option.bind_some, c2, Option.bind_some]
  congr 1
  rw [Bool.eq_iff_iff, beq_iff_eq, decide_eq_true_eq, ← can_sv hG own y]
  exact Int.ofNat_eq_zero

/-! spec_CanSolve -/
theorem spec_CanSolve.ev (l : List Int) (own : Bool) (s : Int) (h : l.length < 4611686018427387904) : Ev (fun k => spec_CanSolve.f k l own s) (canR l own s) := by
  obtain ⟨K, hK⟩ := spec_grSet.ev l own s h
  unfold canR boardOk
  cases e : (good l && inSet l.length s)
  · refine ⟨K, fun k hk => ?_⟩
    have h1 : spec_grSet.f k l own s = _ := hK k hk
    show spec_CanSolve.f k l own s = _
    unfold spec_CanSolve.f
    rw [h1, Option.bind_some, e]
    rfl
  · obtain ⟨hG, hs⟩ := boardOk_of (l := l) (s := s) e
    obtain ⟨h0, h1, h2⟩ := inSet_lt hs
    obtain ⟨K2, hK2⟩ := spec_soCan.ev l own hG s.toNat h1
    refine ⟨K + K2, fun k hk => ?_⟩
    have c1 : spec_grSet.f k l own s = _ := hK k (by omega)
    have c2 : spec_soCan.f k l own (s.toNat : Int) = _ := hK2 k (by omega)
    rw [← h2] at c2
    show spec_CanSolve.f k l own s = _
    unfold spec_CanSolve.f
    rw [c1, Option.bind_some, e, if_pos rfl, c2, Option.bind_some]
    rfl

/-! spec_CountSolutions -/
theorem spec_CountSolutions.ev (l : List Int) (own : Bool) (s : Int) (h : l.length < 4611686018427387904) : Ev (fun k => spec_CountSolutions.f k l own s) (countR l own s) := by
  obtain ⟨K, hK⟩ := spec_grSet.ev l own s h
  unfold countR boardOk
  cases e : (good l && inSet l.length s)
  · refine ⟨K, fun k hk => ?_⟩
    have h1 : spec_grSet.f k l own s = _ := hK k hk
    show spec_CountSolutions.f k l own s = _
    unfold spec_CountSolutions.f
    rw [h1, Option.bind_some, e]
    rfl
  · obtain ⟨hG, hs⟩ := boardOk_of (l := l) (s := s) e
    obtain ⟨h0, h1, h2⟩ := inSet_lt hs
    have hq := (inv_graph hG own).rq
    have hn := hG.top
    obtain ⟨K2, hK2⟩ := ev_and (spec_soCan.ev l own hG s.toNat h1) (spec_soQuiet.ev l own hG)
    refine ⟨K + K2, fun k hk => ?_⟩
    have c1 : spec_grSet.f k l own s = _ := hK k (by omega)
    obtain ⟨c2, c3⟩ := hK2 k (by omega)
    rw [← h2] at c2
    rw [soQuiet_sv hG own] at c3
    show spec_CountSolutions.f k l own s = _
    unfold spec_CountSolutions.f
    rw [c1, Option.bind_some, e, if_pos rfl, c2, Option.bind_some]
    by_cases e2 : (reach (svG l own).ps s.toNat).1 = 0
    · rw [if_pos (by simpa using e2), c3, Option.bind_some, ints_length, shl_one (by omega) (by show ((svOf (togs l own)).quiet.length : Int) ≤ 62; omega), Int.toNat_natCast, if_pos rfl, if_pos e2]
    · rw [if_neg (by simpa using e2), if_pos rfl, if_neg e2]

/-! impl_IsQuiet -/
theorem impl_IsQuiet.ev (l : List Int) (own : Bool) (s : Int) : Ev (fun k => impl_IsQuiet.f k l own s) (isQuietR l own s) := by
  obtain ⟨K, hK⟩ := impl_isSet.ev l own [s]
  have ea : (good l && [s].all (inSet l.length)) = (good l && inSet l.length s) := by simp
  rw [ea] at hK
  unfold isQuietR boardOk
  cases e : (good l && inSet l.length s)
  · refine ⟨K, fun k hk => ?_⟩
    have h1 : impl_isSet.f k l own [s] = _ := hK k hk
    show impl_IsQuiet.f k l own s = _
    unfold impl_IsQuiet.f
    rw [h1, Option.bind_some, e]
    rfl
  · obtain ⟨hG, hs⟩ := boardOk_of (l := l) (s := s) e
    obtain ⟨h0, h1, h2⟩ := inSet_lt hs
    have hc := pow_cast l.length
    obtain ⟨K2, hK2⟩ := impl_Graph_effect.ev l own hG s h0 (by omega)
    refine ⟨K + K2, fun k hk => ?_⟩
    have c1 : impl_isSet.f k l own [s] = _ := hK k (by omega)
    have c2 : impl_Graph_effect.f k l own s = _ := hK2 k (by omega)
    show impl_IsQuiet.f k l own s = _
    unfold impl_IsQuiet.f
    rw [c1, Option.bind_some, e, if_pos rfl, c2, Option.bind_some, effFrom_eff, if_pos rfl]
    congr 2
    rw [Bool.eq_iff_iff, beq_iff_eq, decide_eq_true_eq]
    exact Int.ofNat_eq_zero
end Go.Proofs.Ytlioggjncgfioaa.Pure
