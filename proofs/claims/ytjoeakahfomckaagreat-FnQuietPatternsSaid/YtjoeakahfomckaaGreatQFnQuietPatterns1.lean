/- What the functions of FnQuietPatterns compute, in plain words. -/
import Derived.Test.YtjoeakahfomckaaGreatPFnQuietPatternsx
import Derived.Test.YtjoeakahfomckaaGreatM1
import Derived.Test.YtjoeakahfomckaaGreatM2
import Derived.Test.YtjoeakahfomckaaGreatM3
import Derived.Test.YtjoeakahfomckaaGreatM4
import Derived.Test.YtjoeakahfomckaaGreatM5
import Derived.Test.YtjoeakahfomckaaGreatM6
import Derived.Test.YtjoeakahfomckaaGreatM7
import Derived.Test.YtjoeakahfomckaaGreatM8
import Derived.Test.YtjoeakahfomckaaGreatM9
import Derived.Test.YtjoeakahfomckaaGreatM10
import Derived.Test.YtjoeakahfomckaaGreatM12
import Derived.Test.YtjoeakahfomckaaGreatM15
import Derived.Test.YtjoeakahfomckaaGreatM17
import Derived.Test.YtjoeakahfomckaaGreatM20
import Derived.Test.YtjoeakahfomckaaGreatM21
import Derived.Test.YtjoeakahfomckaaGreatM22
import Derived.Test.YtjoeakahfomckaaGreatM23
import Derived.Test.YtjoeakahfomckaaGreatM25
import Derived.Test.YtjoeakahfomckaaGreatM26
import Derived.Test.YtjoeakahfomckaaGreatM27
import Derived.Test.YtjoeakahfomckaaGreatM28
import Derived.Test.YtjoeakahfomckaaGreatM31
import Derived.Test.YtjoeakahfomckaaGreatM32
import Derived.Test.YtjoeakahfomckaaGreatQFnQuietPatterns0
namespace Go.Proofs.YtjoeakahfomckaaGreat.Pure
open Go.RowKit Go.Proofs.YtjoeakahfomckaaGreat.PFnQuietPatterns Go.Proofs.YtjoeakahfomckaaGreatW.PrintWords Go.Proofs.YtjoeakahfomckaaGreatW.PrintLast Go.Proofs.YtjoeakahfomckaaGreatW.PrintMore Go.Proofs.YtjoeakahfomckaaGreatM
set_option linter.unusedVariables false
set_option linter.unusedSimpArgs false
/-! impl_Graph_effect -/
theorem impl_Graph_effect.loop (l : List Int) (own : Bool) (hG : GoodG l) (s : Int) (h0 : 0 ≤ s) (h1 : s < 2 ^ l.length) : ∀ (d i o : Nat), i + d = l.length → o < 2 ^ l.length → Ev (fun k => impl_Graph_effect.l0 k s (o : Int) (l.length : Int) (i : Int) l own) (effFrom l own s d i o : Int)
  | 0, i, o, hd, ho => by
    refine now fun k => ?_
    simp only [impl_Graph_effect.l0]
    rw [if_neg (by omega)]
    rfl
  | d + 1, i, o, hd, ho => by
    have h16 := pow16 hG.top
    have ht := hG.top
    have hc := pow_cast l.length
    have hb := togg_bounds l own hG i (by omega)
    have hin := impl_has.eq s (i : Int) h0 (by omega) (by omega)
    have htg := impl_Graph_toggles.eq l own hG i (by omega)
    unfold effFrom
    cases e : bit s (i : Int)
    · refine Ev.step (f := fun k => impl_Graph_effect.l0 k s (o : Int) (l.length : Int) ((i + 1 : Nat) : Int) l own) (fun k => ?_) (by simpa only [Bool.false_eq_true, if_false] using impl_Graph_effect.loop l own hG s h0 h1 d (i + 1) o (by omega) ho)
      simp only [impl_Graph_effect.l0]
      rw [if_pos (by omega), hin, Option.bind_some, e, if_neg (by decide), wrap_succ i (by omega)]
    · have hx : o ^^^ (togg l own i).toNat < 2 ^ l.length := Nat.xor_lt_two_pow ho (by omega)
      refine Ev.step (f := fun k => impl_Graph_effect.l0 k s ((o ^^^ (togg l own i).toNat : Nat) : Int) (l.length : Int) ((i + 1 : Nat) : Int) l own) (fun k => ?_) (by simpa only [if_true] using impl_Graph_effect.loop l own hG s h0 h1 d (i + 1) _ (by omega) hx)
      simp only [impl_Graph_effect.l0]
      rw [if_pos (by omega), hin, Option.bind_some, e, if_pos rfl, htg, Option.bind_some, xor_eq (by omega) (by omega) hb.1 (by omega), Int.toNat_natCast, wrap_succ i (by omega)]
theorem impl_Graph_effect.ev (l : List Int) (own : Bool) (hG : GoodG l) (s : Int) (h0 : 0 ≤ s) (h1 : s < 2 ^ l.length) : Ev (fun k => impl_Graph_effect.f k l own s) (effFrom l own s l.length 0 0 : Int) :=
  impl_Graph_effect.loop l own hG s h0 h1 l.length 0 0 (by omega) (Nat.two_pow_pos _)

/-! impl_PressAll -/
theorem impl_PressAll.ev (l : List Int) (own : Bool) (s p : Int) : Ev (fun k => impl_PressAll.f k l own s p) (pressAll l own s p) := by
  obtain ⟨K, hK⟩ := ev_get (impl_isSet.ev l own [s, p])
  unfold pressAll
  cases e1 : (good l && inSet l.length s)
  · refine ⟨K, fun k hk => ?_⟩
    show impl_PressAll.f k l own s p = _
    unfold impl_PressAll.f
    rw [hK k hk, Option.bind_some, if_neg (by simp only [List.all_cons, List.all_nil, Bool.and_true]; rw [← Bool.and_assoc, e1]; simp)]
    rfl
  · cases e2 : inSet l.length p
    · refine ⟨K, fun k hk => ?_⟩
      show impl_PressAll.f k l own s p = _
      unfold impl_PressAll.f
      rw [hK k hk, Option.bind_some, if_neg (by simp only [List.all_cons, List.all_nil, Bool.and_true]; rw [← Bool.and_assoc, e1, e2]; simp)]
      rfl
    · simp only [Bool.and_eq_true] at e1
      have hG := (good_iff l).1 e1.1
      obtain ⟨hs0, hs1, hs2⟩ := inSet_lt e1.2
      obtain ⟨hp0, hp1, hp2⟩ := inSet_lt e2
      have hc := pow_cast l.length
      have h16 := pow16 hG.top
      obtain ⟨K2, hK2⟩ := ev_get (impl_Graph_effect.ev l own hG p hp0 (by omega))
      have hlt := eff_lt l own hG p.toNat
      refine ⟨K + K2, fun k hk => ?_⟩
      show impl_PressAll.f k l own s p = _
      unfold impl_PressAll.f
      rw [hK k (by omega), Option.bind_some, if_pos (by simp [e1.1, e1.2, e2]), hK2 k (by omega), Option.bind_some, effFrom_eff, xor_eq hs0 (by omega) (by omega) (by omega)]
      rfl

/-! impl_EffectOf -/
theorem inSet_zero (n : Nat) : inSet n 0 = true := inSet_of (n := n) (s := 0) (Nat.two_pow_pos n)
theorem impl_EffectOf.ev (l : List Int) (own : Bool) (p : Int) : Ev (fun k => impl_EffectOf.f k l own p) (pressAll l own 0 p) := by
  obtain ⟨K, hK⟩ := ev_get (impl_PressAll.ev l own 0 p)
  refine ⟨K, fun k hk => ?_⟩
  show impl_EffectOf.f k l own p = _
  unfold impl_EffectOf.f
  rw [hK k hk]
  rfl

/-! laws_vTop -/
theorem laws_vTop.loop : ∀ (d s : Nat) (c : Int), s < d → s < 4611686018427387904 → -1 ≤ c → c + blen s < 4611686018427387904 → Ev (fun k => laws_vTop.l0 k (s : Int) c) (c + blen s)
  | 0, s, c, hd, hs, hc, hp => by omega
  | d + 1, s, c, hd, hs, hc, hp => by
    by_cases e : s = 0
    · subst e
      refine now fun k => ?_
      simp only [laws_vTop.l0]
      rw [if_neg (by omega), blen_zero]
      simp
    · have hq : blen s = blen (s / 2) + 1 := blen_pos e
      rw [hq] at hp ⊢
      have ih := laws_vTop.loop d (s / 2) (c + 1) (by omega) (by omega) (by omega) (by omega)
      refine Ev.step (f := fun k => laws_vTop.l0 k ((s / 2 : Nat) : Int) (c + 1)) (fun k => ?_) (by rw [show c + ((blen (s / 2) + 1 : Nat) : Int) = c + 1 + (blen (s / 2) : Int) by omega]; exact ih)
      have e1 : Int.tdiv (s : Int) 2 = ((s / 2 : Nat) : Int) := by rw [Int.tdiv_eq_ediv_of_nonneg (by omega)]; omega
      simp only [laws_vTop.l0]
      rw [if_pos (by omega), e1, wrap_id (by omega) (by omega), wrap_id (by omega) (by omega)]
theorem laws_vTop.ev (s : Nat) (h : s < 2 ^ 62) : Ev (fun k => laws_vTop.f k (s : Int)) (pdeg s) := by
  have hb : blen s ≤ 62 := blen_le h
  have h0 := laws_vTop.loop (s + 1) s (-1) (by omega) (by omega) (by omega) (by omega)
  exact Ev.congr (f := fun k => laws_vTop.l0 k (s : Int) (-1)) (fun k => rfl) (by unfold pdeg; rw [show (blen s : Int) - 1 = -1 + blen s by omega]; exact h0)

/-! impl_hasButton -/
theorem impl_hasButton.p_eq (n : Nat) (h : n ≤ 16) (s : Int) : impl_hasButton.p n s = !(isBtn n s) := by
  unfold impl_hasButton.p
  rw [wrap_id (by omega) (by omega), impl_in.eq]
  rfl
theorem impl_hasButton.ev (l : List Int) (own : Bool) (ss : List Int) : Ev (fun k => impl_hasButton.f k l own ss) (good l && ss.all (isBtn l.length)) := by
  obtain ⟨K, hK⟩ := impl_isGraph.ev l own
  refine ⟨K, fun k hk => ?_⟩
  have h1 : impl_isGraph.f k l own = _ := hK k hk
  show impl_hasButton.f k l own ss = _
  unfold impl_hasButton.f
  rw [h1, Option.bind_some]
  cases hg : good l
  · rfl
  · have := ((good_iff l).1 hg).top
    rw [if_pos rfl, Bool.true_and, show impl_hasButton.p l.length = (fun s => !(isBtn l.length s)) from funext (impl_hasButton.p_eq l.length this), List.not_any_eq_all_not]
    simp

/-! impl_TogglesOf -/
theorem impl_TogglesOf.ev (l : List Int) (own : Bool) (i : Int) : Ev (fun k => impl_TogglesOf.f k l own i) (togglesOf l own i) := by
  obtain ⟨K, hK⟩ := ev_get ((show Ev (fun k => impl_hasButton.f k l own [i]) (good l && isBtn l.length i) by have h := impl_hasButton.ev l own [i]; simpa using h))
  refine ⟨K, fun k hk => ?_⟩
  show impl_TogglesOf.f k l own i = _
  unfold impl_TogglesOf.f togglesOf
  rw [hK k hk, Option.bind_some]
  cases e1 : (good l && isBtn l.length i)
  · rfl
  · simp only [Bool.and_eq_true] at e1
    have hG := (good_iff l).1 e1.1
    have hi : 0 ≤ i ∧ i < l.length := btn_all (w := [i]) (by simp [e1.2]) i (by simp)
    obtain ⟨j, rfl⟩ : ∃ j : Nat, i = j := ⟨i.toNat, by omega⟩
    rw [if_pos rfl, impl_Graph_toggles.eq l own hG j (by omega), Option.bind_some, if_pos rfl]
    rfl

/-! impl_isBasis -/
theorem impl_isBasis.top (x : Nat) (hx : x < 2 ^ 63) : Ev (fun k => impl_top.f k (x : Int)) (pdeg x) :=
  ⟨1, fun k hk => by
    obtain ⟨m, rfl⟩ : ∃ m, k = m + 1 := ⟨k - 1, by omega⟩
    exact impl_top.eq m x hx⟩
theorem inR_el {l : List Int} {i : Nat} (h : inR (rd l (i : Int)) = true) : rd l (i : Int) = (el l i : Int) ∧ 1 ≤ el l i ∧ el l i ≤ 65535 := by
  unfold inR at h
  simp only [Bool.and_eq_true, decide_eq_true_eq] at h
  unfold el
  omega
theorem bit_el {a b : Nat} (hb : 1 ≤ b) : bit (a : Int) (pdeg b) = a.testBit (blen b - 1) := by
  have := blen_ne (x := b) (by omega)
  unfold bit pdeg
  rw [show ((blen b : Int) - 1).toNat = blen b - 1 by omega]
  rfl
theorem impl_isBasis.inner (l : List Int) (hn : l.length < 4611686018427387904) (i : Nat) (hi : i < l.length) (hr : ∀ m, m ≤ i → inR (rd l (m : Int)) = true) (R : Bool) (hR : Ev (fun k => impl_isBasis.l0 k l l (l.length : Int) ((i + 1 : Nat) : Int)) R) :
    ∀ (d j : Nat), l.length - j = d → j ≤ l.length → Ev (fun k => impl_isBasis.l1 k l (i : Int) (rd l (i : Int)) l (l.length : Int) (i : Int) l (l.length : Int) (j : Int)) (allF (fun k => !(el l i).testBit (blen (el l k) - 1)) j (i - j) && R)
  | 0, j, hd, hj => by
    rw [show i - j = 0 by omega]
    refine Ev.step (f := fun k => impl_isBasis.l0 k l l (l.length : Int) ((i + 1 : Nat) : Int)) (fun k => ?_) hR
    simp only [impl_isBasis.l1]
    rw [if_neg (by omega), wrap_succ i (by omega)]
  | d + 1, j, hd, hj => by
    have ih := impl_isBasis.inner l hn i hi hr R hR d (j + 1) (by omega) (by omega)
    by_cases e : j < i
    · obtain ⟨hi1, hi2, hi3⟩ := inR_el (hr i (Nat.le_refl _))
      obtain ⟨hj1, hj2, hj3⟩ := inR_el (hr j (by omega))
      obtain ⟨K, hK⟩ := ev_and (impl_isBasis.top (el l j) (by omega)) ih
      refine ⟨K + 1, fun k hk => ?_⟩
      obtain ⟨m, rfl⟩ : ∃ m, k = m + 1 := ⟨k - 1, by omega⟩
      obtain ⟨c1, c2⟩ := hK m (by omega)
      have hp : 0 ≤ pdeg (el l j) := by have := blen_ne (x := el l j) (by omega); unfold pdeg; omega
      show impl_isBasis.l1 (m + 1) _ _ _ _ _ _ _ _ _ = _
      simp only [impl_isBasis.l1]
      rw [if_pos (by omega), if_pos (by omega), if_pos (by omega), if_pos (by omega), hj1, c1, Option.bind_some, hi1, impl_has.eq _ _ (by omega) (by omega) hp, Option.bind_some, bit_el hj2, wrap_succ j (by omega), show i - j = (i - (j + 1)) + 1 by omega, allF]
      rw [hi1] at c2
      cases e2 : (el l i).testBit (blen (el l j) - 1)
      · rw [if_neg (by decide)]
        exact c2
      · rw [if_pos rfl]
        rfl
    · rw [show i - (j + 1) = 0 by omega] at ih
      rw [show i - j = 0 by omega]
      refine Ev.step (f := fun k => impl_isBasis.l1 k l (i : Int) (rd l (i : Int)) l (l.length : Int) (i : Int) l (l.length : Int) ((j + 1 : Nat) : Int)) (fun k => ?_) ih
      simp only [impl_isBasis.l1]
      rw [if_pos (by omega), if_pos (by omega), if_pos (by omega), if_neg (by omega), wrap_succ j (by omega)]
theorem impl_isBasis.outer (l : List Int) (hn : l.length < 4611686018427387904) :
    ∀ (d i : Nat), l.length - i = d → i ≤ l.length → (∀ m, m < i → inR (rd l (m : Int)) = true) → Ev (fun k => impl_isBasis.l0 k l l (l.length : Int) (i : Int)) (allF (okI l) i d)
  | 0, i, hd, hi, hr => by
    refine now fun k => ?_
    simp only [impl_isBasis.l0]
    rw [if_neg (by omega)]
    rfl
  | d + 1, i, hd, hi, hr => by
    have hw : impl_whole.f 16 = some 65535 := impl_whole.eq 16 (by omega) (by omega)
    rw [allF]
    unfold okI
    cases e : inR (rd l (i : Int))
    · refine ⟨2, fun k hk => ?_⟩
      obtain ⟨m, rfl⟩ : ∃ m, k = m + 2 := ⟨k - 2, by omega⟩
      show impl_isBasis.l0 (m + 2) _ _ _ _ = _
      unfold inR at e
      simp only [impl_isBasis.l0]
      rw [if_pos (by omega), if_pos (by omega), if_pos (by omega), hw, Option.bind_some, impl_in.eq, Option.bind_some, e, if_neg (by decide)]
      simp only [impl_isBasis.j1]
      first | rfl | simp
    · have hr2 : ∀ m, m ≤ i → inR (rd l (m : Int)) = true := fun m hm => by
        by_cases e2 : m = i
        · rw [e2]; exact e
        · exact hr m (by omega)
      have ih := impl_isBasis.outer l hn d (i + 1) (by omega) (by omega) fun m hm => hr2 m (by omega)
      have hin := impl_isBasis.inner l hn i (by omega) hr2 _ ih l.length 0 (by omega) (by omega)
      rw [Nat.sub_zero] at hin
      obtain ⟨hi1, hi2, hi3⟩ := inR_el e
      by_cases e0 : 0 < i
      · obtain ⟨hj1, hj2, hj3⟩ := inR_el (hr (i - 1) (by omega))
        obtain ⟨K, hK⟩ := ev_and (impl_isBasis.top (el l (i - 1)) (by omega)) (impl_isBasis.top (el l i) (by omega))
        obtain ⟨K2, hK2⟩ := ev_get hin
        refine ⟨K + K2 + 2, fun k hk => ?_⟩
        obtain ⟨m, rfl⟩ : ∃ m, k = m + 2 := ⟨k - 2, by omega⟩
        obtain ⟨c1, c2⟩ := hK (m + 1) (by omega)
        have c3 := hK2 m (by omega)
        have e3 : wrap64 ((i : Int) - 1) = ((i - 1 : Nat) : Int) := by rw [wrap_id (by omega) (by omega)]; omega
        have ea : adjB l i = decide (pdeg (el l (i - 1)) ≥ pdeg (el l i)) := by
          unfold adjB pdeg
          rw [decide_eq_true e0, Bool.true_and]
          exact decide_eq_decide.2 (by omega)
        show impl_isBasis.l0 (m + 2) _ _ _ _ = _
        unfold inR at e
        simp only [impl_isBasis.l0]
        rw [if_pos (by omega), if_pos (by omega), if_pos (by omega), hw, Option.bind_some, impl_in.eq, Option.bind_some, e, if_pos rfl, if_pos (by omega), e3, if_pos (by omega), if_pos (by omega), hj1, c1, Option.bind_some]
        rw [show impl_top.f (m + 1) (rd l (i : Int)) = _ from (congrArg _ hi1).trans c2, Option.bind_some]
        simp only [impl_isBasis.j1]
        rw [ea]
        cases decide (pdeg (el l (i - 1)) ≥ pdeg (el l i))
        · rw [if_neg (by decide)]
          exact c3
        · rw [if_pos rfl]
          rfl
      · have ea : adjB l i = false := by
          unfold adjB
          rw [decide_eq_false e0]
          rfl
        obtain ⟨K2, hK2⟩ := ev_get hin
        refine ⟨K2 + 2, fun k hk => ?_⟩
        obtain ⟨m, rfl⟩ : ∃ m, k = m + 2 := ⟨k - 2, by omega⟩
        have c3 := hK2 m (by omega)
        show impl_isBasis.l0 (m + 2) _ _ _ _ = _
        unfold inR at e
        simp only [impl_isBasis.l0]
        rw [if_pos (by omega), if_pos (by omega), if_pos (by omega), hw, Option.bind_some, impl_in.eq, Option.bind_some, e, if_pos rfl, if_neg (by omega), ea]
        simp only [impl_isBasis.j1]
        rw [if_neg (by decide)]
        exact c3
theorem impl_isBasis.ev (l : List Int) (hn : l.length < 4611686018427387904) : Ev (fun k => impl_isBasis.f k l) (isBas l) :=
  impl_isBasis.outer l hn l.length 0 (by omega) (by omega) fun m hm => by omega

/-! impl_ReducedSet -/
theorem impl_ReducedSet.ev (l : List Int) (s : Int) (hn : l.length < 4611686018427387904) : Ev (fun k => impl_ReducedSet.f k l s) (redSet l s) := by
  obtain ⟨K, hK⟩ := ev_get (impl_isBasis.ev l hn)
  have hw : impl_whole.f 16 = some 65535 := impl_whole.eq 16 (by omega) (by omega)
  refine ⟨K + 1, fun k hk => ?_⟩
  obtain ⟨m, rfl⟩ : ∃ m, k = m + 1 := ⟨k - 1, by omega⟩
  have c1 : impl_isBasis.f (m + 1) l = _ := hK (m + 1) (by omega)
  show impl_ReducedSet.f (m + 1) l s = _
  unfold impl_ReducedSet.f redSet
  rw [c1, Option.bind_some]
  cases e : isBas l
  · rfl
  · obtain ⟨q, rfl, hB, hq, _⟩ := isBas_of e
    rw [if_pos rfl, hw, Option.bind_some, impl_in.eq, Option.bind_some, Bool.true_and]
    cases e2 : (decide (0 ≤ s) && decide (s ≤ 65535))
    · rfl
    · simp only [Bool.and_eq_true, decide_eq_true_eq] at e2
      obtain ⟨y, rfl⟩ : ∃ y : Nat, s = y := ⟨s.toNat, by omega⟩
      rw [if_pos rfl, impl_reduced.eq m q y (by omega) (fun b hb => ⟨by have := hq b hb; omega, hB.pos b hb⟩), Option.bind_some, if_pos rfl, ints_toNat, Int.toNat_natCast]

/-! spec_l1Own -/
theorem spec_l1Own.eq (l : List Int) (h : l.length < 17592186044416) : spec_l1Own.f l = some l := by
  unfold spec_l1Own.f
  rw [Option.bind_some, if_pos (by simpa using h), List.nil_append]

/-! spec_soSums -/
theorem spec_soSums.inner (q : List Nat) (i : Nat) (o : List Nat) (b : Nat) (hb : b < 2 ^ 62) (ho : ∀ x ∈ o, x < 2 ^ 62) (hn : o.length ≤ 4194304) (R : List Int) (hi : i < 4611686018427387904)
    (hR : Ev (fun k => spec_soSums.l0 k (ints (o ++ o.map fun x => x ^^^ b)) (ints q) (q.length : Int) ((i + 1 : Nat) : Int)) R) :
    ∀ (d j : Nat), o.length - j = d → j ≤ o.length → Ev (fun k => spec_soSums.l1 k (ints (o ++ (o.take j).map fun x => x ^^^ b)) (b : Int) (ints q) (q.length : Int) (i : Int) (ints o) (o.length : Int) (j : Int)) R
  | 0, j, hd, hj => by
    rw [List.take_of_length_le (by omega)]
    refine Ev.step (f := fun k => spec_soSums.l0 k (ints (o ++ o.map fun x => x ^^^ b)) (ints q) (q.length : Int) ((i + 1 : Nat) : Int)) (fun k => ?_) hR
    simp only [spec_soSums.l1]
    rw [if_neg (by omega), wrap_succ i (by omega)]
  | d + 1, j, hd, hj => by
    have hlt : j < o.length := by omega
    have ih := spec_soSums.inner q i o b hb ho hn R hi hR d (j + 1) (by omega) (by omega)
    have hx := ho o[j] (List.getElem_mem hlt)
    have et : (o ++ (o.take (j + 1)).map fun x => x ^^^ b) = (o ++ (o.take j).map fun x => x ^^^ b) ++ [o[j] ^^^ b] := by
      rw [List.take_succ_eq_append_getElem hlt, List.map_append, List.append_assoc]
      rfl
    refine Ev.step (f := fun k => spec_soSums.l1 k (ints (o ++ (o.take (j + 1)).map fun x => x ^^^ b)) (b : Int) (ints q) (q.length : Int) (i : Int) (ints o) (o.length : Int) ((j + 1 : Nat) : Int)) (fun k => ?_) ih
    simp only [spec_soSums.l1]
    rw [if_pos (by omega), if_pos (by omega), if_pos (by rw [ints_length]; omega), ints_get o j hlt, xor_nat o[j] b (by omega) (by omega)]
    rw [if_pos (by rw [ints_length]; simp; omega), wrap_succ j (by omega), et, show ints ((o ++ (o.take j).map fun x => x ^^^ b) ++ [o[j] ^^^ b]) = ints (o ++ (o.take j).map fun x => x ^^^ b) ++ [((o[j] ^^^ b : Nat) : Int)] from ints_append _ _]
theorem spec_soSums.outer (q : List Nat) (hq : ∀ b ∈ q, b < 2 ^ 62) (hn : q.length ≤ 20) : ∀ (d i : Nat) (o : List Nat), q.length - i = d → i ≤ q.length → (∀ x ∈ o, x < 2 ^ 62) → o.length ≤ 2 ^ i → Ev (fun k => spec_soSums.l0 k (ints o) (ints q) (q.length : Int) (i : Int)) (ints (sumsGo o (q.drop i)))
  | 0, i, o, hd, hi, ho, hl => by
    refine now fun k => ?_
    simp only [spec_soSums.l0]
    rw [if_neg (by omega), List.drop_eq_nil_of_le (by omega)]
    rfl
  | d + 1, i, o, hd, hi, ho, hl => by
    have hlt : i < q.length := by omega
    have hb := hq q[i] (List.getElem_mem hlt)
    have hp : (2 : Nat) ^ i ≤ 2 ^ 20 := Nat.pow_le_pow_right (by decide) (by omega)
    have ih := spec_soSums.outer q hq hn d (i + 1) (o ++ o.map fun x => x ^^^ q[i]) (by omega) (by omega) (fun x hx => by
      rcases List.mem_append.1 hx with hx | hx
      · exact ho x hx
      · obtain ⟨z, hz, rfl⟩ := List.mem_map.1 hx
        exact Nat.xor_lt_two_pow (ho z hz) hb) (by rw [List.length_append, List.length_map, Nat.pow_succ]; omega)
    rw [List.drop_eq_getElem_cons hlt, sumsGo]
    have hin := spec_soSums.inner q i o q[i] hb ho (by omega) _ (by omega) ih o.length 0 (by omega) (by omega)
    rw [List.take_zero, List.map_nil, List.append_nil] at hin
    refine Ev.step (f := fun k => spec_soSums.l1 k (ints o) (q[i] : Int) (ints q) (q.length : Int) (i : Int) (ints o) (o.length : Int) ((0 : Nat) : Int)) (fun k => ?_) hin
    simp only [spec_soSums.l0]
    rw [if_pos (by omega), if_pos (by omega), if_pos (by rw [ints_length]; omega), ints_get q i hlt, spec_l1Own.eq _ (by rw [ints_length]; omega), Option.bind_some, ints_length]
    rfl
theorem spec_soSums.ev (q : List Nat) (hq : ∀ b ∈ q, b < 2 ^ 62) (hn : q.length ≤ 20) : Ev (fun k => spec_soSums.f k (ints q)) (ints (sums q)) := by
  have h := spec_soSums.outer q hq hn q.length 0 [0] (by omega) (by omega) (fun x hx => by rw [List.mem_singleton.1 hx]; decide) (by simp)
  rw [List.drop_zero] at h
  exact Ev.congr (f := fun k => spec_soSums.l0 k (ints [0]) (ints q) (q.length : Int) ((0 : Nat) : Int)) (fun k => by
    show spec_soSums.f k (ints q) = _
    unfold spec_soSums.f
    rw [ints_length]
    rfl) h

/-! spec_QuietPatterns -/
theorem spec_QuietPatterns.ev (l : List Int) (own : Bool) (h : l.length < 4611686018427387904) : Ev (fun k => spec_QuietPatterns.f k l own) (qpR l own) := by
  obtain ⟨K, hK⟩ := ev_get (spec_grGood.ev l own h)
  unfold qpR
  cases e : good l
  · refine ⟨K + 1, fun k hk => ?_⟩
    obtain ⟨m, rfl⟩ : ∃ m, k = m + 1 := ⟨k - 1, by omega⟩
    have c1 : spec_grGood.f (m + 1) l own = _ := hK (m + 1) (by omega)
    show spec_QuietPatterns.f (m + 1) l own = _
    unfold spec_QuietPatterns.f
    rw [c1, Option.bind_some, e, if_neg (by decide)]
    simp only [spec_QuietPatterns.j0]
    rfl
  · have hG := (good_iff l).1 e
    obtain ⟨hb, hl, hB⟩ := quiet_small hG own
    obtain ⟨K2, hK2⟩ := ev_get (spec_soQuiet.ev l own hG)
    rw [soQuiet_sv hG own] at hK2
    obtain ⟨K3, hK3⟩ := ev_get (spec_soSums.ev (svG l own).quiet (fun b h => by have := hb b h; omega) (by omega))
    refine ⟨K + K2 + K3 + 1, fun k hk => ?_⟩
    obtain ⟨m, rfl⟩ : ∃ m, k = m + 1 := ⟨k - 1, by omega⟩
    have c1 : spec_grGood.f (m + 1) l own = _ := hK (m + 1) (by omega)
    have c2 : spec_soQuiet.f (m + 1) l own = _ := hK2 (m + 1) (by omega)
    have c3 : spec_soQuiet.f m l own = _ := hK2 m (by omega)
    have c4 : spec_soSums.f m (ints (svG l own).quiet) = _ := hK3 m (by omega)
    show spec_QuietPatterns.f (m + 1) l own = _
    unfold spec_QuietPatterns.f
    rw [c1, Option.bind_some, e, if_pos rfl, c2, Option.bind_some, ints_length, Bool.true_and]
    simp only [spec_QuietPatterns.j0]
    by_cases e8 : (svG l own).quiet.length ≤ 8
    · rw [decide_eq_false (by omega), if_neg (by decide), c3, Option.bind_some, c4, Option.bind_some, decide_eq_true e8, if_pos rfl]
    · rw [decide_eq_true (by omega), if_pos rfl, decide_eq_false e8, if_neg (by decide)]

/-! impl_IsQuiet -/
theorem impl_IsQuiet.ev (l : List Int) (own : Bool) (s : Int) : Ev (fun k => impl_IsQuiet.f k l own s) (isQuietR l own s) := by
  obtain ⟨K, hK⟩ := impl_isSet.ev l own [s]
  have ea : (good l && [s].all (inSet l.length)) = (good l && inSet l.length s) := by simp
  rw [ea] at hK
  unfold isQuietR boardOk
  cases e : (good l && inSet l.length s)
  · refine ⟨K, fun k hk => ?_⟩
    have h1 : impl_isSet.f k l own [s] = _ := hK k hk
    show impl_IsQuiet.f k l own s = _
    unfold impl_IsQuiet.f
    rw [h1, Option.bind_some, e]
    rfl
  · obtain ⟨hG, hs⟩ := boardOk_of (l := l) (s := s) e
    obtain ⟨h0, h1, h2⟩ := inSet_lt hs
    have hc := pow_cast l.length
    obtain ⟨K2, hK2⟩ := impl_Graph_effect.ev l own hG s h0 (by omega)
    refine ⟨K + K2, fun k hk => ?_⟩
    have c1 : impl_isSet.f k l own [s] = _ := hK k (by omega)
    have c2 : impl_Graph_effect.f k l own s = _ := hK2 k (by omega)
    show impl_IsQuiet.f k l own s = _
    unfold impl_IsQuiet.f
    rw [c1, Option.bind_some, e, if_pos rfl, c2, Option.bind_some, effFrom_eff, if_pos rfl]
    congr 2
    rw [Bool.eq_iff_iff, beq_iff_eq, decide_eq_true_eq]
    exact Int.ofNat_eq_zero

/-! spec_grSet -/
theorem spec_grSet.ev (l : List Int) (own : Bool) (s : Int) (h : l.length < 4611686018427387904) : Ev (fun k => spec_grSet.f k l own s) (good l && inSet l.length s) := by
  obtain ⟨K, hK⟩ := spec_grGood.ev l own h
  refine ⟨K, fun k hk => ?_⟩
  have h1 : spec_grGood.f k l own = _ := hK k hk
  show spec_grSet.f k l own s = _
  unfold spec_grSet.f
  rw [h1, Option.bind_some]
  cases hg : good l
  · rfl
  · have hG := (good_iff l).1 hg
    have := hG.top
    rw [if_pos rfl, whole_eq (by omega) (by omega), spec_l1In.eq, Option.bind_some, Bool.true_and, inSet_eq]

/-! spec_grEffect -/
theorem spec_grEffect.loop (l : List Int) (own : Bool) (hG : GoodG l) (s : Int) (h0 : 0 ≤ s) (h1 : s < 2 ^ l.length) : ∀ (d i o : Nat), i + d = l.length → o < 2 ^ l.length → Ev (fun k => spec_grEffect.l0 k s (o : Int) (l.length : Int) (i : Int) l own) (effFrom l own s d i o : Int)
  | 0, i, o, hd, ho => by
    refine now fun k => ?_
    simp only [spec_grEffect.l0]
    rw [if_neg (by omega)]
    rfl
  | d + 1, i, o, hd, ho => by
    have h16 := pow16 hG.top
    have ht := hG.top
    have hc := pow_cast l.length
    have hb := togg_bounds l own hG i (by omega)
    have hin := spec_grIn.eq s (i : Int) h0 (by omega) (by omega)
    have htg := spec_grToggles.eq l own hG i (by omega)
    unfold effFrom
    cases e : bit s (i : Int)
    · refine Ev.step (f := fun k => spec_grEffect.l0 k s (o : Int) (l.length : Int) ((i + 1 : Nat) : Int) l own) (fun k => ?_) (by simpa only [Bool.false_eq_true, if_false] using spec_grEffect.loop l own hG s h0 h1 d (i + 1) o (by omega) ho)
      simp only [spec_grEffect.l0]
      rw [if_pos (by omega), hin, Option.bind_some, e, if_neg (by decide), wrap_succ i (by omega)]
    · have hx : o ^^^ (togg l own i).toNat < 2 ^ l.length := Nat.xor_lt_two_pow ho (by omega)
      refine Ev.step (f := fun k => spec_grEffect.l0 k s ((o ^^^ (togg l own i).toNat : Nat) : Int) (l.length : Int) ((i + 1 : Nat) : Int) l own) (fun k => ?_) (by simpa only [if_true] using spec_grEffect.loop l own hG s h0 h1 d (i + 1) _ (by omega) hx)
      simp only [spec_grEffect.l0]
      rw [if_pos (by omega), hin, Option.bind_some, e, if_pos rfl, htg, Option.bind_some, xor_eq (by omega) (by omega) hb.1 (by omega), Int.toNat_natCast, wrap_succ i (by omega)]
theorem spec_grEffect.ev (l : List Int) (own : Bool) (hG : GoodG l) (s : Int) (h0 : 0 ≤ s) (h1 : s < 2 ^ l.length) : Ev (fun k => spec_grEffect.f k l own s) (effFrom l own s l.length 0 0 : Int) :=
  spec_grEffect.loop l own hG s h0 h1 l.length 0 0 (by omega) (Nat.two_pow_pos _)

/-! spec_IsQuiet -/
theorem spec_IsQuiet.ev (l : List Int) (own : Bool) (s : Int) (h : l.length < 4611686018427387904) : Ev (fun k => spec_IsQuiet.f k l own s) (isQuietR l own s) := by
  obtain ⟨K, hK⟩ := ev_get (spec_grSet.ev l own s h)
  unfold isQuietR boardOk
  cases e : (good l && inSet l.length s)
  · refine ⟨K, fun k hk => ?_⟩
    have h1 : spec_grSet.f k l own s = _ := hK k hk
    show spec_IsQuiet.f k l own s = _
    unfold spec_IsQuiet.f
    rw [h1, Option.bind_some, e]
    rfl
  · obtain ⟨hG, hs⟩ := boardOk_of (l := l) (s := s) e
    obtain ⟨h0, h1, h2⟩ := inSet_lt hs
    have hc := pow_cast l.length
    obtain ⟨K2, hK2⟩ := ev_get (spec_grEffect.ev l own hG s h0 (by omega))
    refine ⟨K + K2, fun k hk => ?_⟩
    have c1 : spec_grSet.f k l own s = _ := hK k (by omega)
    have c2 : spec_grEffect.f k l own s = _ := hK2 k (by omega)
    show spec_IsQuiet.f k l own s = _
    unfold spec_IsQuiet.f
    rw [c1, Option.bind_some, e, if_pos rfl, c2, Option.bind_some, effFrom_eff, if_pos rfl]
    congr 2
    rw [Bool.eq_iff_iff, beq_iff_eq, decide_eq_true_eq]
    exact Int.ofNat_eq_zero

/-! spec_soBasis -/
theorem rd_drop (l : List Int) (i j : Nat) : rd (l.drop i) (j : Int) = rd l ((i + j : Nat) : Int) := by
  unfold rd
  rw [Int.toNat_natCast, Int.toNat_natCast]
  simp [List.getElem?_drop]
theorem spec_soBasis.inner (l : List Int) (hn : l.length < 4611686018427387904) (i : Nat) (hi : i < l.length) (hr : ∀ m, m < l.length → inR (rd l (m : Int)) = true) (R : Bool) (hR : Ev (fun k => spec_soBasis.l0 k l l (l.length : Int) ((i + 1 : Nat) : Int)) R) :
    ∀ (d j : Nat), l.length - (i + 1) - j = d → j ≤ l.length - (i + 1) → Ev (fun k => spec_soBasis.l1 k l (rd l (i : Int)) l (l.length : Int) (i : Int) (l.drop (i + 1)) ((l.length - (i + 1) : Nat) : Int) (j : Int)) (allF (fun k => !(el l k).testBit (blen (el l i) - 1)) (i + 1 + j) d && R)
  | 0, j, hd, hj => by
    refine Ev.step (f := fun k => spec_soBasis.l0 k l l (l.length : Int) ((i + 1 : Nat) : Int)) (fun k => ?_) hR
    simp only [spec_soBasis.l1]
    rw [if_neg (by omega), wrap_succ i (by omega)]
  | d + 1, j, hd, hj => by
    have ih := spec_soBasis.inner l hn i hi hr R hR d (j + 1) (by omega) (by omega)
    obtain ⟨hi1, hi2, hi3⟩ := inR_el (hr i hi)
    obtain ⟨hj1, hj2, hj3⟩ := inR_el (hr (i + 1 + j) (by omega))
    obtain ⟨K, hK⟩ := ev_and (spec_soTop.ev (el l i) (by omega)) ih
    refine ⟨K + 1, fun k hk => ?_⟩
    obtain ⟨m, rfl⟩ : ∃ m, k = m + 1 := ⟨k - 1, by omega⟩
    obtain ⟨c1, c2⟩ := hK m (by omega)
    have hp : 0 ≤ pdeg (el l i) := by have := blen_ne (x := el l i) (by omega); unfold pdeg; omega
    show spec_soBasis.l1 (m + 1) _ _ _ _ _ _ _ _ = _
    simp only [spec_soBasis.l1]
    rw [if_pos (by omega), if_pos (by omega), if_pos (by rw [List.length_drop]; omega), rd_drop, hj1, hi1, c1, Option.bind_some, spec_grIn.eq _ _ (by omega) (by omega) hp, Option.bind_some, bit_el hi2, wrap_succ j (by omega), allF]
    rw [hi1, ← Nat.add_assoc] at c2
    cases e2 : (el l (i + 1 + j)).testBit (blen (el l i) - 1)
    · rw [if_neg (by decide)]
      exact c2
    · rw [if_pos rfl]
      rfl
theorem spec_soBasis.outer (l : List Int) (hn : l.length < 4611686018427387904) (hr : ∀ m, m < l.length → inR (rd l (m : Int)) = true) :
    ∀ (d i : Nat), l.length - i = d → i ≤ l.length → Ev (fun k => spec_soBasis.l0 k l l (l.length : Int) (i : Int)) (allF (okS l) i d)
  | 0, i, hd, hi => by
    refine now fun k => ?_
    simp only [spec_soBasis.l0]
    rw [if_neg (by omega)]
    rfl
  | d + 1, i, hd, hi => by
    have ih := spec_soBasis.outer l hn hr d (i + 1) (by omega) (by omega)
    have hin := spec_soBasis.inner l hn i (by omega) hr _ ih (l.length - (i + 1)) 0 (by omega) (by omega)
    rw [Nat.add_zero] at hin
    obtain ⟨hi1, hi2, hi3⟩ := inR_el (hr i (by omega))
    rw [allF]
    unfold okS
    have e4 : wrap64 ((i : Int) + 1) = ((i + 1 : Nat) : Int) := wrap_succ i (by omega)
    have hlen : ((l.drop (i + 1)).length : Int) = ((l.length - (i + 1) : Nat) : Int) := by rw [List.length_drop]
    by_cases e0 : 0 < i
    · obtain ⟨hj1, hj2, hj3⟩ := inR_el (hr (i - 1) (by omega))
      obtain ⟨K, hK⟩ := ev_and (spec_soTop.ev (el l (i - 1)) (by omega)) (spec_soTop.ev (el l i) (by omega))
      obtain ⟨K2, hK2⟩ := ev_get hin
      refine ⟨K + K2 + 2, fun k hk => ?_⟩
      obtain ⟨m, rfl⟩ : ∃ m, k = m + 2 := ⟨k - 2, by omega⟩
      obtain ⟨c1, c2⟩ := hK (m + 1) (by omega)
      have c3 := hK2 m (by omega)
      have e3 : wrap64 ((i : Int) - 1) = ((i - 1 : Nat) : Int) := by rw [wrap_id (by omega) (by omega)]; omega
      have ea : adjB l i = decide (pdeg (el l (i - 1)) ≥ pdeg (el l i)) := by
        unfold adjB pdeg
        rw [decide_eq_true e0, Bool.true_and]
        exact decide_eq_decide.2 (by omega)
      show spec_soBasis.l0 (m + 2) _ _ _ _ = _
      simp only [spec_soBasis.l0]
      rw [if_pos (by omega), if_pos (by omega), if_pos (by omega), if_pos (by omega), e3, if_pos (by omega), if_pos (by omega), hj1, c1, Option.bind_some]
      rw [show spec_soTop.f (m + 1) (rd l (i : Int)) = _ from (congrArg _ hi1).trans c2, Option.bind_some]
      simp only [spec_soBasis.j2]
      rw [ea]
      cases decide (pdeg (el l (i - 1)) ≥ pdeg (el l i))
      · rw [if_neg (by decide), e4, if_pos (by omega), if_pos (by omega), Int.toNat_natCast, hlen]
        exact c3
      · rw [if_pos rfl]
        rfl
    · have ea : adjB l i = false := by
        unfold adjB
        rw [decide_eq_false e0]
        rfl
      obtain ⟨K2, hK2⟩ := ev_get hin
      refine ⟨K2 + 2, fun k hk => ?_⟩
      obtain ⟨m, rfl⟩ : ∃ m, k = m + 2 := ⟨k - 2, by omega⟩
      have c3 := hK2 m (by omega)
      show spec_soBasis.l0 (m + 2) _ _ _ _ = _
      simp only [spec_soBasis.l0]
      rw [if_pos (by omega), if_pos (by omega), if_pos (by omega), if_neg (by omega), ea]
      simp only [spec_soBasis.j2]
      rw [if_neg (by decide), e4, if_pos (by omega), if_pos (by omega), Int.toNat_natCast, hlen]
      exact c3
theorem spec_soBasis.ev (l : List Int) (hn : l.length < 4611686018427387904) : Ev (fun k => spec_soBasis.f k l) (isBas l) := by
  rw [← isBas_spec]
  by_cases h16 : l.length ≤ 16
  · obtain ⟨K, hK⟩ := ev_get (spec_l1All.ev l 1 65535 hn)
    cases e : (l.all fun x => decide (1 ≤ x) && decide (x ≤ 65535))
    · refine ⟨K + 1, fun k hk => ?_⟩
      obtain ⟨m, rfl⟩ : ∃ m, k = m + 1 := ⟨k - 1, by omega⟩
      have c1 : spec_l1All.f (m + 1) l 1 65535 = _ := hK (m + 1) (by omega)
      show spec_soBasis.f (m + 1) l = _
      unfold spec_soBasis.f
      rw [if_neg (by omega), c1, Option.bind_some, e]
      simp only [spec_soBasis.j0]
      simp
    · have hr : ∀ m, m < l.length → inR (rd l (m : Int)) = true := fun m hm => by
        have e2 : rd l (m : Int) = l[m] := by simp [rd, hm]
        rw [e2]
        exact List.all_eq_true.1 e _ (List.getElem_mem hm)
      obtain ⟨K2, hK2⟩ := ev_get (spec_soBasis.outer l hn hr l.length 0 (by omega) (by omega))
      refine ⟨K + K2 + 1, fun k hk => ?_⟩
      obtain ⟨m, rfl⟩ : ∃ m, k = m + 1 := ⟨k - 1, by omega⟩
      have c1 : spec_l1All.f (m + 1) l 1 65535 = _ := hK (m + 1) (by omega)
      have c2 := hK2 m (by omega)
      show spec_soBasis.f (m + 1) l = _
      unfold spec_soBasis.f
      rw [if_neg (by omega), c1, Option.bind_some, e, decide_eq_true h16]
      simp only [spec_soBasis.j0]
      rw [if_neg (by decide)]
      exact c2
  · refine ⟨1, fun k hk => ?_⟩
    obtain ⟨m, rfl⟩ : ∃ m, k = m + 1 := ⟨k - 1, by omega⟩
    show spec_soBasis.f (m + 1) l = _
    unfold spec_soBasis.f
    rw [if_pos (by omega), decide_eq_false h16]
    simp only [spec_soBasis.j0]
    first | rfl | simp

/-! spec_ReducedSet -/
theorem spec_ReducedSet.ev (l : List Int) (s : Int) (hn : l.length < 4611686018427387904) : Ev (fun k => spec_ReducedSet.f k l s) (redSet l s) := by
  obtain ⟨K, hK⟩ := ev_get (spec_soBasis.ev l hn)
  cases e : isBas l
  · refine ⟨K, fun k hk => ?_⟩
    have c1 : spec_soBasis.f k l = _ := hK k hk
    show spec_ReducedSet.f k l s = _
    unfold spec_ReducedSet.f redSet
    rw [c1, Option.bind_some, e]
    rfl
  · obtain ⟨q, rfl, hB, hq, hql⟩ := isBas_of e
    cases e2 : (decide (0 ≤ s) && decide (s ≤ 65535))
    · refine ⟨K, fun k hk => ?_⟩
      have c1 : spec_soBasis.f k (ints q) = _ := hK k hk
      show spec_ReducedSet.f k (ints q) s = _
      unfold spec_ReducedSet.f redSet
      rw [c1, Option.bind_some, e, if_pos rfl, spec_l1In.eq, Option.bind_some, e2]
      rfl
    · have e3 := e2
      simp only [Bool.and_eq_true, decide_eq_true_eq] at e3
      obtain ⟨y, rfl⟩ : ∃ y : Nat, s = y := ⟨s.toNat, by omega⟩
      obtain ⟨K2, hK2⟩ := ev_get (spec_soReduce.ev q (fun b hb => ⟨by have := hq b hb; omega, hB.pos b hb⟩) (by omega) y (by omega))
      refine ⟨K + K2, fun k hk => ?_⟩
      have c1 : spec_soBasis.f k (ints q) = _ := hK k (by omega)
      have c2 : spec_soReduce.f k (ints q) (y : Int) = _ := hK2 k (by omega)
      show spec_ReducedSet.f k (ints q) (y : Int) = _
      unfold spec_ReducedSet.f redSet
      rw [c1, Option.bind_some, e, if_pos rfl, spec_l1In.eq, Option.bind_some, e2, if_pos rfl, c2, Option.bind_some, Bool.true_and, if_pos rfl, ints_toNat, Int.toNat_natCast]
end Go.Proofs.YtjoeakahfomckaaGreat.Pure
