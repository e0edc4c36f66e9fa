/- What the functions of FnAllOnSolved compute, in plain words. -/
import Derived.Test.YtlioggjncgfioaaPFnAllOnSolvedx
import Derived.Test.YtlioggjncgfioaaM1
import Derived.Test.YtlioggjncgfioaaM2
import Derived.Test.YtlioggjncgfioaaM3
import Derived.Test.YtlioggjncgfioaaM4
import Derived.Test.YtlioggjncgfioaaM5
import Derived.Test.YtlioggjncgfioaaM6
import Derived.Test.YtlioggjncgfioaaM7
import Derived.Test.YtlioggjncgfioaaM8
import Derived.Test.YtlioggjncgfioaaM9
import Derived.Test.YtlioggjncgfioaaM10
import Derived.Test.YtlioggjncgfioaaM12
import Derived.Test.YtlioggjncgfioaaM15
import Derived.Test.YtlioggjncgfioaaM17
import Derived.Test.YtlioggjncgfioaaM20
import Derived.Test.YtlioggjncgfioaaM21
import Derived.Test.YtlioggjncgfioaaM22
import Derived.Test.YtlioggjncgfioaaM23
import Derived.Test.YtlioggjncgfioaaM25
import Derived.Test.YtlioggjncgfioaaM26
import Derived.Test.YtlioggjncgfioaaM27
import Derived.Test.YtlioggjncgfioaaM28
import Derived.Test.YtlioggjncgfioaaM29
import Derived.Test.YtlioggjncgfioaaM30
import Derived.Test.YtlioggjncgfioaaQFnAllOnSolved0
namespace Go.Proofs.Ytlioggjncgfioaa.Pure
open Go.RowKit Go.Proofs.Ytlioggjncgfioaa.PFnAllOnSolved Go.Proofs.YtlioggjncgfioaaW.PrintWords Go.Proofs.YtlioggjncgfioaaW.PrintLast Go.Proofs.YtlioggjncgfioaaW.PrintMore Go.Proofs.YtlioggjncgfioaaM
set_option linter.unusedVariables false
set_option linter.unusedSimpArgs false
/-! spec_soSolve -/
theorem spec_soSolve.inner (y : Int) (n : Nat) (p : List Nat) (l : List Int) (own : Bool) (j : Int) (hp : ∀ b ∈ p, b < 2 ^ 62 ∧ b ≠ 0) (hn : p.length ≤ 1048576) (R : Int × Bool) : ∀ (i s : Nat), i ≤ p.length → s < 2 ^ 62 → Ev (fun k => spec_soSolve.l1 k y (n : Int) (ints p) ((red (p.take i) s : Nat) : Int) (-1) (n : Int) j l own) R →
    Ev (fun k => spec_soSolve.l1 k y (n : Int) (ints p) (s : Int) ((i : Int) - 1) (n : Int) j l own) R
  | 0, s, _, _, h => by simpa [red] using h
  | i + 1, s, hi, hs, h => by
    have hb := hp p[i] (List.getElem_mem (by omega))
    have h1 := blen_ne hb.2
    have e0 : red (p.take (i + 1)) s = red (p.take i) (redOne s p[i]) := by
      rw [List.take_succ_eq_append_getElem (by omega)]
      unfold red
      rw [List.foldr_append]
      rfl
    rw [e0] at h
    have ih := spec_soSolve.inner y n p l own j hp hn R i (redOne s p[i]) (by omega) (redOne_lt hs hb.1) h
    obtain ⟨K, hK⟩ := ev_and (spec_soTop.ev p[i] (by omega)) ih
    refine ⟨K + 1, fun k hk => ?_⟩
    obtain ⟨m, rfl⟩ : ∃ m, k = m + 1 := ⟨k - 1, by omega⟩
    obtain ⟨c1, c2⟩ := hK m (by omega)
    have e1 : bit (s : Int) (pdeg p[i]) = s.testBit (blen p[i] - 1) := by
      unfold bit pdeg
      rw [show ((blen p[i] : Int) - 1).toNat = blen p[i] - 1 by omega]
      rfl
    show spec_soSolve.l1 (m + 1) y (n : Int) (ints p) (s : Int) (((i + 1 : Nat) : Int) - 1) (n : Int) j l own = _
    simp only [spec_soSolve.l1]
    rw [show (((i + 1 : Nat) : Int) - 1) = (i : Int) by omega, if_pos (by omega), if_pos (by omega), if_pos (by rw [ints_length]; omega), ints_get p i (by omega), c1, Option.bind_some, spec_grIn.eq (s : Int) (pdeg p[i]) (by omega) (by omega) (by unfold pdeg; omega), Option.bind_some, e1, wrap_id (by omega) (by omega)]
    by_cases e : s.testBit (blen p[i] - 1) = true
    · have er : redOne s p[i] = s ^^^ p[i] := if_pos e
      rw [er] at c2
      rw [if_pos e, xor_nat s p[i] (by omega) (by omega)]
      exact c2
    · have er : redOne s p[i] = s := if_neg e
      rw [er] at c2
      rw [if_neg e]
      exact c2
theorem spec_soSolve.outer (l : List Int) (own : Bool) (hG : GoodG l) (y : Nat) (hy : y < 2 ^ l.length) : ∀ (d i : Nat) (p q : List Nat), i + d = l.length → Small2 i p q → Ev (fun k => spec_soSolve.l0 k (y : Int) (l.length : Int) (ints p) (l.length : Int) (i : Int) l own) (if red (soGo l.length (pks l own i d) (p, q)).1 (y <<< l.length) >>> l.length = 0 then ((red (soQuietN l own) (red (soGo l.length (pks l own i d) (p, q)).1 (y <<< l.length)) : Int), true) else ((0 : Int), false))
  | 0, i, p, q, hd, h => by
    have hn := hG.top
    have hpl := h.pl
    have hc : y * 2 ^ l.length < 2 ^ 32 := by
      have h4 : y * 2 ^ l.length < 2 ^ l.length * 2 ^ l.length := Nat.mul_lt_mul_of_pos_right hy (Nat.two_pow_pos _)
      rw [← Nat.pow_add] at h4
      exact Nat.lt_of_lt_of_le h4 (Nat.pow_le_pow_right (by decide) (by omega))
    have hys : y <<< l.length < 2 ^ 32 := by rw [Nat.shiftLeft_eq]; exact hc
    have hr := red_lt p _ h.ps hys
    have hq2 := soN_inv (l := l) own
    have h16 : (2 : Nat) ^ l.length ≤ 2 ^ 16 := Nat.pow_le_pow_right (by decide) hn
    have hql : (soQuietN l own).length ≤ 1048576 := by
      have h1 := (inv_graph hG own).rq
      have h2 := (togs_ints l own hG).2.1
      rw [soQuiet_sv hG own]
      show (svOf (togs l own)).quiet.length ≤ 1048576
      omega
    obtain ⟨K1, hK1⟩ := ev_and (spec_soReduce.ev p (fun b hb => ⟨by have := h.ps b hb; omega, h.pb.pos b hb⟩) (by omega) (y <<< l.length) (by omega)) (spec_soQuiet.ev l own hG)
    obtain ⟨K2, hK2⟩ := spec_soReduce.ev (soQuietN l own) (fun b hb => ⟨by have := ((hq2.qs b).1 (Sp.one hb)).1; omega, hq2.qb.pos b hb⟩) hql (red p (y <<< l.length)) (by omega)
    refine ⟨K1 + K2 + 1, fun k hk => ?_⟩
    obtain ⟨m, rfl⟩ : ∃ m, k = m + 1 := ⟨k - 1, by omega⟩
    obtain ⟨c1, c2⟩ := hK1 m (by omega)
    have c3 : spec_soReduce.f m (ints (soQuietN l own)) ((red p (y <<< l.length) : Nat) : Int) = _ := hK2 m (by omega)
    show spec_soSolve.l0 (m + 1) _ _ _ _ _ _ _ = _
    simp only [spec_soSolve.l0]
    have hsr := shr_nat (red p (y <<< l.length)) l.length (by omega)
    rw [if_neg (by omega), if_pos (by omega), shl_nat y l.length (by omega) (by omega), c1, Option.bind_some, hsr]
    show _ = some (if red p (y <<< l.length) >>> l.length = 0 then _ else _)
    by_cases e : red p (y <<< l.length) >>> l.length = 0
    · rw [e, if_neg (by decide), if_pos rfl, c2, Option.bind_some, c3, Option.bind_some]
      rfl
    · rw [if_pos (Int.natCast_pos.2 (Nat.pos_of_ne_zero e)), if_neg e]
  | d + 1, i, p, q, hd, h => by
    have hn := hG.top
    have hi : i < l.length := by omega
    have hs := pkOf_lt hG own hi
    have hpl := h.pl
    have hql := h.ql
    have hstep := small2_step (n := l.length) h hs
    have ih := spec_soSolve.outer l own hG y hy d (i + 1) _ _ (by omega) hstep
    have hr := red_lt p _ h.ps hs
    have htb := togg_bounds l own hG i hi
    have hc := pow_cast l.length
    have h16 : (2 : Nat) ^ l.length ≤ 2 ^ 16 := Nat.pow_le_pow_right (by decide) hn
    have hsh : (togg l own i).toNat * 2 ^ l.length < 2 ^ 32 := by
      have h4 : (togg l own i).toNat * 2 ^ l.length < 2 ^ l.length * 2 ^ l.length := Nat.mul_lt_mul_of_pos_right (by omega) (Nat.two_pow_pos _)
      rw [← Nat.pow_add] at h4
      exact Nat.lt_of_lt_of_le h4 (Nat.pow_le_pow_right (by decide) (by omega))
    have hpi : (2 : Nat) ^ i < 2 ^ 16 := Nat.pow_lt_pow_right (by decide) (by omega)
    have hpi2 : (2 : Nat) ^ i < 2 ^ l.length := Nat.pow_lt_pow_right (by decide) hi
    have hval : Go.bits .or .i64 (shl .i64 (togg l own i) (l.length : Int)) (shl .i64 1 (i : Int)) = ((pkOf l own i : Nat) : Int) := by
      have e1 := shl_nat (togg l own i).toNat l.length (by omega) (by omega)
      rw [show (((togg l own i).toNat : Nat) : Int) = togg l own i by omega] at e1
      rw [e1, shl_one (by omega) (by omega), Int.toNat_natCast, or_nat _ _ (by rw [Nat.shiftLeft_eq]; omega) (by omega), Nat.or_comm, or_shift hpi2]
      rfl
    have hfin : Ev (fun k => spec_soSolve.l1 k (y : Int) (l.length : Int) (ints p) ((red (p.take p.length) (pkOf l own i) : Nat) : Int) (-1) (l.length : Int) (i : Int) l own) (if red (soGo l.length (pks l own (i + 1) d) (soStep l.length (p, q) (pkOf l own i))).1 (y <<< l.length) >>> l.length = 0 then ((red (soQuietN l own) (red (soGo l.length (pks l own (i + 1) d) (soStep l.length (p, q) (pkOf l own i))).1 (y <<< l.length)) : Int), true) else ((0 : Int), false)) := by
      rw [List.take_length]
      have hsr := shr_nat (red p (pkOf l own i)) l.length (by omega)
      unfold soStep at ih ⊢
      by_cases e : red p (pkOf l own i) >>> l.length = 0
      · rw [if_pos e] at ih ⊢
        obtain ⟨K, hK⟩ := ih
        refine ⟨K + 1, fun k hk => ?_⟩
        obtain ⟨m, rfl⟩ : ∃ m, k = m + 1 := ⟨k - 1, by omega⟩
        have c2 := hK m (by omega)
        show spec_soSolve.l1 (m + 1) _ _ _ _ _ _ _ _ _ = _
        simp only [spec_soSolve.l1]
        rw [if_neg (by omega), if_pos (by omega), hsr, e, if_neg (by decide), wrap_succ i (by omega)]
        exact c2
      · rw [if_neg e] at ih ⊢
        obtain ⟨K, hK⟩ := ev_and (spec_soPut.ev p (red p (pkOf l own i)) (by omega) (fun b hb => by have := h.ps b hb; omega) h.pb (by omega)) ih
        refine ⟨K + 1, fun k hk => ?_⟩
        obtain ⟨m, rfl⟩ : ∃ m, k = m + 1 := ⟨k - 1, by omega⟩
        obtain ⟨c1, c2⟩ := hK m (by omega)
        show spec_soSolve.l1 (m + 1) _ _ _ _ _ _ _ _ _ = _
        simp only [spec_soSolve.l1]
        rw [if_neg (by omega), if_pos (by omega), hsr, if_pos (Int.natCast_pos.2 (Nat.pos_of_ne_zero e)), c1, Option.bind_some, wrap_succ i (by omega)]
        exact c2
    have hin := spec_soSolve.inner (y : Int) l.length p l own (i : Int) (fun b hb => ⟨by have := h.ps b hb; omega, h.pb.pos b hb⟩) (by omega) _ p.length (pkOf l own i) (Nat.le_refl _) (by omega) hfin
    rw [pks_succ, soGo]
    obtain ⟨K, hK⟩ := hin
    refine ⟨K + 1, fun k hk => ?_⟩
    obtain ⟨m, rfl⟩ : ∃ m, k = m + 1 := ⟨k - 1, by omega⟩
    have c := hK m (by omega)
    show spec_soSolve.l0 (m + 1) _ _ _ _ _ _ _ = _
    simp only [spec_soSolve.l0]
    rw [if_pos (by omega), spec_grToggles.eq l own hG i hi, Option.bind_some, if_pos (by omega), if_pos (by omega), hval, ints_length, wrap_id (by omega) (by omega)]
    exact c
theorem spec_soSolve.ev (l : List Int) (own : Bool) (hG : GoodG l) (y : Nat) (hy : y < 2 ^ l.length) : Ev (fun k => spec_soSolve.f k l own (y : Int)) (if (reach (svG l own).ps y).1 = 0 then ((red (svG l own).quiet (reach (svG l own).ps y).2 : Int), true) else ((0 : Int), false)) := by
  have h := spec_soSolve.outer l own hG y hy l.length 0 [] [] (by omega) small2_new
  rw [← soSolve_sv hG own hy]
  exact h

/-! spec_AllOn -/
theorem spec_AllOn.ev (l : List Int) (own : Bool) (h : l.length < 4611686018427387904) : Ev (fun k => spec_AllOn.f k l own) (allR l own) := by
  obtain ⟨K, hK⟩ := spec_grGood.ev l own h
  cases e : good l
  · rw [(allR_bad own 0 e).2]
    refine ⟨K, fun k hk => ?_⟩
    have h1 : spec_grGood.f k l own = _ := hK k hk
    show spec_AllOn.f k l own = _
    unfold spec_AllOn.f
    rw [h1, Option.bind_some, e]
    rfl
  · have hG := (good_iff l).1 e
    have hp := Nat.two_pow_pos l.length
    obtain ⟨K2, hK2⟩ := spec_soSolve.ev l own hG (2 ^ l.length - 1) (by omega)
    refine ⟨K + K2, fun k hk => ?_⟩
    have c1 : spec_grGood.f k l own = _ := hK k (by omega)
    have c2 : spec_soSolve.f k l own ((2 ^ l.length - 1 : Nat) : Int) = _ := hK2 k (by omega)
    have hw : wrap64 ((shl .i64 1 (l.length : Int)) - 1) = ((2 ^ l.length - 1 : Nat) : Int) := by
      have h1 := whole_eq (n := (l.length : Int)) (by omega) (by have := hG.top; omega)
      have hc := pow_cast l.length
      rw [h1, Int.toNat_natCast]
      omega
    show spec_AllOn.f k l own = _
    unfold spec_AllOn.f
    rw [c1, Option.bind_some, e, if_pos rfl, hw, c2, Option.bind_some]
    unfold allR
    rw [if_pos e]

/-! impl_Graph_effect -/
theorem impl_Graph_effect.loop (l : List Int) (own : Bool) (hG : GoodG l) (s : Int) (h0 : 0 ≤ s) (h1 : s < 2 ^ l.length) : ∀ (d i o : Nat), i + d = l.length → o < 2 ^ l.length → Ev (fun k => impl_Graph_effect.l0 k s (o : Int) (l.length : Int) (i : Int) l own) (effFrom l own s d i o : Int)
  | 0, i, o, hd, ho => by
    refine now fun k => ?_
    simp only [impl_Graph_effect.l0]
    rw [if_neg (by omega)]
    rfl
  | d + 1, i, o, hd, ho => by
    have h16 := pow16 hG.top
    have ht := hG.top
    have hc := pow_cast l.length
    have hb := togg_bounds l own hG i (by omega)
    have hin := impl_has.eq s (i : Int) h0 (by omega) (by omega)
    have htg := impl_Graph_toggles.eq l own hG i (by omega)
    unfold effFrom
    cases e : bit s (i : Int)
    · refine Ev.step (f := fun k => impl_Graph_effect.l0 k s (o : Int) (l.length : Int) ((i + 1 : Nat) : Int) l own) (fun k => ?_) (by simpa only [Bool.false_eq_true, if_false] using impl_Graph_effect.loop l own hG s h0 h1 d (i + 1) o (by omega) ho)
      simp only [impl_Graph_effect.l0]
      rw [if_pos (by omega), hin, Option.bind_some, e, if_neg (by decide), wrap_succ i (by omega)]
    · have hx : o ^^^ (togg l own i).toNat < 2 ^ l.length := Nat.xor_lt_two_pow ho (by omega)
      refine Ev.step (f := fun k => impl_Graph_effect.l0 k s ((o ^^^ (togg l own i).toNat : Nat) : Int) (l.length : Int) ((i + 1 : Nat) : Int) l own) (fun k => ?_) (by simpa only [if_true] using impl_Graph_effect.loop l own hG s h0 h1 d (i + 1) _ (by omega) hx)
      simp only [impl_Graph_effect.l0]
      rw [if_pos (by omega), hin, Option.bind_some, e, if_pos rfl, htg, Option.bind_some, xor_eq (by omega) (by omega) hb.1 (by omega), Int.toNat_natCast, wrap_succ i (by omega)]
theorem impl_Graph_effect.ev (l : List Int) (own : Bool) (hG : GoodG l) (s : Int) (h0 : 0 ≤ s) (h1 : s < 2 ^ l.length) : Ev (fun k => impl_Graph_effect.f k l own s) (effFrom l own s l.length 0 0 : Int) :=
  impl_Graph_effect.loop l own hG s h0 h1 l.length 0 0 (by omega) (Nat.two_pow_pos _)

/-! impl_PressAll -/
theorem impl_PressAll.ev (l : List Int) (own : Bool) (s p : Int) : Ev (fun k => impl_PressAll.f k l own s p) (pressAll l own s p) := by
  obtain ⟨K, hK⟩ := ev_get (impl_isSet.ev l own [s, p])
  unfold pressAll
  cases e1 : (good l && inSet l.length s)
  · refine ⟨K, fun k hk => ?_⟩
    show impl_PressAll.f k l own s p = _
    unfold impl_PressAll.f
    rw [hK k hk, Option.bind_some, if_neg (by simp only [List.all_cons, List.all_nil, Bool.and_true]; rw [← Bool.and_assoc, e1]; simp)]
    rfl
  · cases e2 : inSet l.length p
    · refine ⟨K, fun k hk => ?_⟩
      show impl_PressAll.f k l own s p = _
      unfold impl_PressAll.f
      rw [hK k hk, Option.bind_some, if_neg (by simp only [List.all_cons, List.all_nil, Bool.and_true]; rw [← Bool.and_assoc, e1, e2]; simp)]
      rfl
    · simp only [Bool.and_eq_true] at e1
      have hG := (good_iff l).1 e1.1
      obtain ⟨hs0, hs1, hs2⟩ := inSet_lt e1.2
      obtain ⟨hp0, hp1, hp2⟩ := inSet_lt e2
      have hc := pow_cast l.length
      have h16 := pow16 hG.top
      obtain ⟨K2, hK2⟩ := ev_get (impl_Graph_effect.ev l own hG p hp0 (by omega))
      have hlt := eff_lt l own hG p.toNat
      refine ⟨K + K2, fun k hk => ?_⟩
      show impl_PressAll.f k l own s p = _
      unfold impl_PressAll.f
      rw [hK k (by omega), Option.bind_some, if_pos (by simp [e1.1, e1.2, e2]), hK2 k (by omega), Option.bind_some, effFrom_eff, xor_eq hs0 (by omega) (by omega) (by omega)]
      rfl

/-! impl_EffectOf -/
theorem inSet_zero (n : Nat) : inSet n 0 = true := inSet_of (n := n) (s := 0) (Nat.two_pow_pos n)
theorem impl_EffectOf.ev (l : List Int) (own : Bool) (p : Int) : Ev (fun k => impl_EffectOf.f k l own p) (pressAll l own 0 p) := by
  obtain ⟨K, hK⟩ := ev_get (impl_PressAll.ev l own 0 p)
  refine ⟨K, fun k hk => ?_⟩
  show impl_EffectOf.f k l own p = _
  unfold impl_EffectOf.f
  rw [hK k hk]
  rfl

/-! laws_vSize -/
theorem laws_vSize.loop : ∀ (d s c : Nat), s < d → s < 4611686018427387904 → c < 4611686018427387904 → c + pop s < 4611686018427387904 → Ev (fun k => laws_vSize.l0 k (s : Int) (c : Int)) ((c + pop s : Nat) : Int)
  | 0, s, c, hd, hs, hc, hp => by omega
  | d + 1, s, c, hd, hs, hc, hp => by
    by_cases e : s = 0
    · subst e
      refine now fun k => ?_
      simp only [laws_vSize.l0]
      rw [if_neg (by omega)]
      unfold pop
      simp
    · have hq : pop s = s % 2 + pop (s / 2) := by rw [pop, if_neg e]
      rw [hq] at hp ⊢
      have ih := laws_vSize.loop d (s / 2) (c + s % 2) (by omega) (by omega) (by omega) (by omega)
      refine Ev.step (f := fun k => laws_vSize.l0 k ((s / 2 : Nat) : Int) ((c + s % 2 : Nat) : Int)) (fun k => ?_) (by rw [← Nat.add_assoc]; exact ih)
      have e1 : Int.tdiv (s : Int) 2 = ((s / 2 : Nat) : Int) := by rw [Int.tdiv_eq_ediv_of_nonneg (by omega)]; omega
      have e2 : Int.tmod (s : Int) 2 = ((s % 2 : Nat) : Int) := by rw [Int.tmod_eq_emod_of_nonneg (by omega)]; omega
      simp only [laws_vSize.l0]
      rw [if_pos (by omega), e1, e2, wrap_id (by omega) (by omega), wrap_id (by omega) (by omega)]
      rfl
theorem laws_vSize.ev (s n : Nat) (hn : n ≤ 60) (h : s < 2 ^ n) : Ev (fun k => laws_vSize.f k (s : Int)) (pop s : Int) := by
  have hp := pop_le (k := n) (by omega) h
  have h2 : (2 : Nat) ^ n ≤ 2 ^ 60 := Nat.pow_le_pow_right (by decide) hn
  have h0 := laws_vSize.loop (s + 1) s 0 (by omega) (by omega) (by omega) (by omega)
  rw [Nat.zero_add] at h0
  exact Ev.congr (f := fun k => laws_vSize.l0 k (s : Int) ((0 : Nat) : Int)) (fun k => rfl) h0

/-! impl_hasButton -/
theorem impl_hasButton.p_eq (n : Nat) (h : n ≤ 16) (s : Int) : impl_hasButton.p n s = !(isBtn n s) := by
  unfold impl_hasButton.p
  rw [wrap_id (by omega) (by omega), impl_in.eq]
  rfl
theorem impl_hasButton.ev (l : List Int) (own : Bool) (ss : List Int) : Ev (fun k => impl_hasButton.f k l own ss) (good l && ss.all (isBtn l.length)) := by
  obtain ⟨K, hK⟩ := impl_isGraph.ev l own
  refine ⟨K, fun k hk => ?_⟩
  have h1 : impl_isGraph.f k l own = _ := hK k hk
  show impl_hasButton.f k l own ss = _
  unfold impl_hasButton.f
  rw [h1, Option.bind_some]
  cases hg : good l
  · rfl
  · have := ((good_iff l).1 hg).top
    rw [if_pos rfl, Bool.true_and, show impl_hasButton.p l.length = (fun s => !(isBtn l.length s)) from funext (impl_hasButton.p_eq l.length this), List.not_any_eq_all_not]
    simp

/-! impl_TogglesOf -/
theorem impl_TogglesOf.ev (l : List Int) (own : Bool) (i : Int) : Ev (fun k => impl_TogglesOf.f k l own i) (togglesOf l own i) := by
  obtain ⟨K, hK⟩ := ev_get ((show Ev (fun k => impl_hasButton.f k l own [i]) (good l && isBtn l.length i) by have h := impl_hasButton.ev l own [i]; simpa using h))
  refine ⟨K, fun k hk => ?_⟩
  show impl_TogglesOf.f k l own i = _
  unfold impl_TogglesOf.f togglesOf
  rw [hK k hk, Option.bind_some]
  cases e1 : (good l && isBtn l.length i)
  · rfl
  · simp only [Bool.and_eq_true] at e1
    have hG := (good_iff l).1 e1.1
    have hi : 0 ≤ i ∧ i < l.length := btn_all (w := [i]) (by simp [e1.2]) i (by simp)
    obtain ⟨j, rfl⟩ : ∃ j : Nat, i = j := ⟨i.toNat, by omega⟩
    rw [if_pos rfl, impl_Graph_toggles.eq l own hG j (by omega), Option.bind_some, if_pos rfl]
    rfl
end Go.Proofs.Ytlioggjncgfioaa.Pure
