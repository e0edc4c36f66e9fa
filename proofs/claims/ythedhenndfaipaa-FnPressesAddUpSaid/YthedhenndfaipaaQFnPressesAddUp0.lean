/- What the functions of FnPressesAddUp compute, in plain words. -/
import Derived.Test.YthedhenndfaipaaPFnPressesAddUpx
import Derived.Test.YthedhenndfaipaaM1
import Derived.Test.YthedhenndfaipaaM2
import Derived.Test.YthedhenndfaipaaM17
namespace Go.Proofs.Ythedhenndfaipaa.Pure
open Go.RowKit Go.Proofs.Ythedhenndfaipaa.PFnPressesAddUp Go.Proofs.YthedhenndfaipaaW.PrintWords Go.Proofs.YthedhenndfaipaaW.PrintLast Go.Proofs.YthedhenndfaipaaW.PrintMore Go.Proofs.YthedhenndfaipaaM
set_option linter.unusedVariables false
set_option linter.unusedSimpArgs false
/-! impl_in -/
theorem impl_in.eq (x a b : Int) : impl_in.f x a b = some (decide (a ≤ x) && decide (x ≤ b)) := by
  unfold impl_in.f
  by_cases h : a ≤ x
  · rw [if_pos h]; simp [h]
  · rw [if_neg h]; simp [h]

/-! impl_whole -/
theorem impl_whole.eq (n : Int) (h0 : 0 ≤ n) (h1 : n ≤ 62) : impl_whole.f n = some (2 ^ n.toNat - 1) := by unfold impl_whole.f; rw [if_pos h0, whole_eq h0 h1]

/-! impl_has -/
theorem impl_has.eq (x i : Int) (hx : 0 ≤ x) (hx1 : x < 2 ^ 63) (hi : 0 ≤ i) : impl_has.f x i = some (bit x i) := by unfold impl_has.f; rw [if_pos hi, has_bit hx hx1 hi]

/-! impl_isCount -/
theorem impl_isCount.eq (x : Int) : impl_isCount.f x = some (decide (1 ≤ x) && decide (x ≤ 16)) := by unfold impl_isCount.f; rw [impl_in.eq]; rfl

/-! impl_isGraph -/
theorem impl_isGraph.inner (l : List Int) (own : Bool) (hn : l.length ≤ 16) (i : Nat) (hi : i < l.length) (hbi : 0 ≤ l[i] ∧ l[i] < 2 ^ 63) (hb : ∀ j, (h : j < i) → 0 ≤ l[j] ∧ l[j] < 2 ^ 63) (r : Bool) (hr : Ev (fun k => impl_isGraph.l0 k (l.length : Int) l (l.length : Int) ((i + 1 : Nat) : Int) l own) r) (d : Nat) :
    ∀ j : Nat, i - j = d → j ≤ i → Ev (fun k => impl_isGraph.l1 k (l.length : Int) (i : Int) l[i] l (l.length : Int) (i : Int) (i : Int) (j : Int) l own) (((List.range' j (i - j)).all fun j => bit (l.getD i 0) (j : Int) == bit (l.getD j 0) (i : Int)) && r) := by
  induction d with
  | zero =>
    intro j hd hj
    refine Ev.step (f := fun k => impl_isGraph.l0 k (l.length : Int) l (l.length : Int) ((i + 1 : Nat) : Int) l own) (fun k => ?_) (by rw [hd]; simpa using hr)
    simp only [impl_isGraph.l1]
    rw [if_neg (by omega), wrap_succ i (by omega)]
  | succ d ih =>
    intro j hd hj
    have hlt : j < i := by omega
    have hbj := hb j hlt
    rw [hd, List.range'_succ, List.all_cons, Bool.and_assoc]
    have ih' := ih (j + 1) (by omega) (by omega)
    rw [show i - (j + 1) = d by omega] at ih'
    have h1 := impl_has.eq l[i] (j : Int) hbi.1 hbi.2 (by omega)
    have h2 := impl_has.eq l[j] (i : Int) hbj.1 hbj.2 (by omega)
    rw [getD_get l i hi, getD_get l j (by omega)]
    rw [getD_get l i hi] at ih'
    have step : ∀ k, impl_isGraph.l1 (k + 1) (l.length : Int) (i : Int) l[i] l (l.length : Int) (i : Int) (i : Int) (j : Int) l own = if (bit l[i] (j : Int) == bit l[j] (i : Int)) = true then impl_isGraph.l1 k (l.length : Int) (i : Int) l[i] l (l.length : Int) (i : Int) (i : Int) ((j + 1 : Nat) : Int) l own else some false := by
      intro k
      simp only [impl_isGraph.l1]
      rw [if_pos (by omega), h1, Option.bind_some, if_pos (by omega), if_pos (by omega), rd_get l j (by omega), h2, Option.bind_some, wrap_succ j (by omega)]
      cases bit l[i] (j : Int) <;> cases bit l[j] (i : Int) <;> rfl
    cases e : (bit l[i] (j : Int) == bit l[j] (i : Int))
    · rw [Bool.false_and]
      exact now fun k => by rw [step k, e]; rfl
    · rw [Bool.true_and]
      exact Ev.step (fun k => by rw [step k, e]; rfl) ih'
theorem impl_isGraph.outer (l : List Int) (own : Bool) (hn : l.length ≤ 16) (d : Nat) :
    ∀ i : Nat, l.length - i = d → i ≤ l.length → (∀ j, (h : j < i) → (hj : j < l.length) → 0 ≤ l[j] ∧ l[j] < 2 ^ l.length) → Ev (fun k => impl_isGraph.l0 k (l.length : Int) l (l.length : Int) (i : Int) l own) ((List.range' i (l.length - i)).all (okRow l)) := by
  induction d with
  | zero =>
    intro i hd hi _
    refine now fun k => ?_
    simp only [impl_isGraph.l0]
    rw [if_neg (by omega), hd]
    rfl
  | succ d ih =>
    intro i hd hi hb
    have hlt : i < l.length := by omega
    have h16 := pow16 hn
    rw [hd, List.range'_succ, List.all_cons]
    have hr : okRow l i = (inSet l.length l[i] && (!(bit l[i] (i : Int)) && (List.range' 0 i).all fun j => bit (l.getD i 0) (j : Int) == bit (l.getD j 0) (i : Int))) := by
      unfold okRow
      rw [getD_get l i hlt]
    have hin : impl_in.f l[i] 0 (2 ^ (l.length : Int).toNat - 1) = some (inSet l.length l[i]) := by
      rw [impl_in.eq, Int.toNat_natCast]
      unfold inSet
      congr 2
      rw [Bool.eq_iff_iff]
      simp only [decide_eq_true_eq]
      omega
    rw [hr]
    cases e1 : inSet l.length l[i]
    · rw [Bool.false_and, Bool.false_and]
      refine ⟨2, fun k hk => ?_⟩
      obtain ⟨m, rfl⟩ : ∃ m, k = m + 2 := ⟨k - 2, by omega⟩
      show impl_isGraph.l0 (m + 2) (l.length : Int) l (l.length : Int) (i : Int) l own = _
      simp only [impl_isGraph.l0]
      rw [if_pos (by omega), if_pos (by omega), if_pos (by omega), rd_get l i hlt, impl_whole.eq _ (by omega) (by omega), Option.bind_some, hin, Option.bind_some, e1, if_neg (by decide)]
      simp only [impl_isGraph.j1, if_true]
    · have hbi : 0 ≤ l[i] ∧ l[i] < 2 ^ l.length := by simpa [inSet] using e1
      have hbi' : 0 ≤ l[i] ∧ l[i] < 2 ^ 63 := by omega
      rw [Bool.true_and]
      have head : ∀ k, impl_isGraph.l0 (k + 2) (l.length : Int) l (l.length : Int) (i : Int) l own = if bit l[i] (i : Int) = true then some false else impl_isGraph.l1 k (l.length : Int) (i : Int) l[i] l (l.length : Int) (i : Int) (i : Int) ((0 : Nat) : Int) l own := by
        intro k
        simp only [impl_isGraph.l0]
        rw [if_pos (by omega), if_pos (by omega), if_pos (by omega), rd_get l i hlt, impl_whole.eq _ (by omega) (by omega), Option.bind_some, hin, Option.bind_some, e1, if_pos rfl, impl_has.eq l[i] (i : Int) hbi'.1 hbi'.2 (by omega), Option.bind_some]
        simp only [impl_isGraph.j1]
        rfl
      cases e2 : bit l[i] (i : Int)
      · rw [Bool.not_false, Bool.true_and]
        have ih' := ih (i + 1) (by omega) (by omega) (fun j h hj => by
          rcases Nat.lt_succ_iff_lt_or_eq.1 h with h | h
          · exact hb j h hj
          · subst h; exact hbi)
        rw [show l.length - (i + 1) = d by omega] at ih'
        obtain ⟨K, hK⟩ := impl_isGraph.inner l own hn i hlt hbi' (fun j h => by have := hb j h (by omega); omega) _ ih' i 0 (by omega) (by omega)
        rw [Nat.sub_zero] at hK
        refine ⟨K + 2, fun k hk => ?_⟩
        obtain ⟨m, rfl⟩ : ∃ m, k = m + 2 := ⟨k - 2, by omega⟩
        show impl_isGraph.l0 (m + 2) (l.length : Int) l (l.length : Int) (i : Int) l own = _
        rw [head m, e2, if_neg (by decide)]
        exact hK m (by omega)
      · rw [Bool.not_true, Bool.false_and, Bool.false_and]
        refine ⟨2, fun k hk => ?_⟩
        obtain ⟨m, rfl⟩ : ∃ m, k = m + 2 := ⟨k - 2, by omega⟩
        show impl_isGraph.l0 (m + 2) (l.length : Int) l (l.length : Int) (i : Int) l own = _
        rw [head m, e2, if_pos rfl]
theorem impl_isGraph.ev (l : List Int) (own : Bool) : Ev (fun k => impl_isGraph.f k l own) (good l) := by
  rw [good_rows]
  by_cases hn : 1 ≤ l.length ∧ l.length ≤ 16
  · have e1 : impl_isCount.f (l.length : Int) = some true := by rw [impl_isCount.eq, decide_eq_true (by omega), decide_eq_true (by omega)]; rfl
    rw [show (decide (1 ≤ l.length ∧ l.length ≤ 16)) = true from decide_eq_true hn, Bool.true_and]
    refine Ev.congr (f := fun k => impl_isGraph.l0 k (l.length : Int) l (l.length : Int) ((0 : Nat) : Int) l own) (fun k => ?_) (by simpa using impl_isGraph.outer l own hn.2 l.length 0 (by omega) (by omega) (fun j h => absurd h (by omega)))
    unfold impl_isGraph.f
    rw [e1, Option.bind_some, if_pos rfl]
    rfl
  · have e1 : impl_isCount.f (l.length : Int) = some false := by
      rw [impl_isCount.eq]
      congr 1
      rw [Bool.and_eq_false_iff, decide_eq_false_iff_not, decide_eq_false_iff_not]
      omega
    rw [show (decide (1 ≤ l.length ∧ l.length ≤ 16)) = false from decide_eq_false hn, Bool.false_and]
    refine always fun k => ?_
    unfold impl_isGraph.f
    rw [e1, Option.bind_some, if_neg (by decide)]

/-! impl_isSet -/
theorem impl_isSet.p_eq (n : Nat) (h : n ≤ 16) (s : Int) : impl_isSet.p n s = !(inSet n s) := by
  unfold impl_isSet.p
  rw [whole_eq (by omega) (by omega), impl_in.eq, Int.toNat_natCast, ← inSet_eq' n s]
  rfl
theorem impl_isSet.ev (l : List Int) (own : Bool) (ss : List Int) : Ev (fun k => impl_isSet.f k l own ss) (good l && ss.all (inSet l.length)) := by
  obtain ⟨K, hK⟩ := impl_isGraph.ev l own
  refine ⟨K, fun k hk => ?_⟩
  have h1 : impl_isGraph.f k l own = _ := hK k hk
  show impl_isSet.f k l own ss = _
  unfold impl_isSet.f
  rw [h1, Option.bind_some]
  cases hg : good l
  · rfl
  · have := ((good_iff l).1 hg).top
    rw [if_pos rfl, Bool.true_and, show impl_isSet.p l.length = (fun s => !(inSet l.length s)) from funext (impl_isSet.p_eq l.length this), List.not_any_eq_all_not]
    simp

/-! impl_Graph_toggles -/
theorem impl_Graph_toggles.eq (l : List Int) (own : Bool) (hG : GoodG l) (i : Nat) (hi : i < l.length) : impl_Graph_toggles.f l own (i : Int) = some (togg l own i) := by
  have h16 := hG.top
  have hx := hG.sets (rd l (i : Int)) (rd_mem l _ (by omega) (by omega))
  have hp := pow16 hG.top
  unfold impl_Graph_toggles.f togg
  cases own
  · rw [if_neg (by decide), if_pos (by omega), if_pos (by omega), if_neg (by decide)]
  · have h2 : (2 : Nat) ^ i < 2 ^ 63 := Nat.pow_lt_pow_right (by decide) (by omega)
    rw [if_pos rfl, if_pos (by omega), if_pos (by omega), if_pos rfl, shl_one (by omega) (by omega), Int.toNat_natCast, or_eq hx.1 (by omega) (Int.natCast_nonneg _) (by exact_mod_cast h2)]
    rfl

/-! impl_Graph_effect -/
theorem impl_Graph_effect.loop (l : List Int) (own : Bool) (hG : GoodG l) (s : Int) (h0 : 0 ≤ s) (h1 : s < 2 ^ l.length) : ∀ (d i o : Nat), i + d = l.length → o < 2 ^ l.length → Ev (fun k => impl_Graph_effect.l0 k s (o : Int) (l.length : Int) (i : Int) l own) (effFrom l own s d i o : Int)
  | 0, i, o, hd, ho => by
    refine now fun k => ?_
    simp only [impl_Graph_effect.l0]
    rw [if_neg (by omega)]
    rfl
  | d + 1, i, o, hd, ho => by
    have h16 := pow16 hG.top
    have ht := hG.top
    have hc := pow_cast l.length
    have hb := togg_bounds l own hG i (by omega)
    have hin := impl_has.eq s (i : Int) h0 (by omega) (by omega)
    have htg := impl_Graph_toggles.eq l own hG i (by omega)
    unfold effFrom
    cases e : bit s (i : Int)
    · refine Ev.step (f := fun k => impl_Graph_effect.l0 k s (o : Int) (l.length : Int) ((i + 1 : Nat) : Int) l own) (fun k => ?_) (by simpa only [Bool.false_eq_true, if_false] using impl_Graph_effect.loop l own hG s h0 h1 d (i + 1) o (by omega) ho)
      simp only [impl_Graph_effect.l0]
      rw [if_pos (by omega), hin, Option.bind_some, e, if_neg (by decide), wrap_succ i (by omega)]
    · have hx : o ^^^ (togg l own i).toNat < 2 ^ l.length := Nat.xor_lt_two_pow ho (by omega)
      refine Ev.step (f := fun k => impl_Graph_effect.l0 k s ((o ^^^ (togg l own i).toNat : Nat) : Int) (l.length : Int) ((i + 1 : Nat) : Int) l own) (fun k => ?_) (by simpa only [if_true] using impl_Graph_effect.loop l own hG s h0 h1 d (i + 1) _ (by omega) hx)
      simp only [impl_Graph_effect.l0]
      rw [if_pos (by omega), hin, Option.bind_some, e, if_pos rfl, htg, Option.bind_some, xor_eq (by omega) (by omega) hb.1 (by omega), Int.toNat_natCast, wrap_succ i (by omega)]
theorem impl_Graph_effect.ev (l : List Int) (own : Bool) (hG : GoodG l) (s : Int) (h0 : 0 ≤ s) (h1 : s < 2 ^ l.length) : Ev (fun k => impl_Graph_effect.f k l own s) (effFrom l own s l.length 0 0 : Int) :=
  impl_Graph_effect.loop l own hG s h0 h1 l.length 0 0 (by omega) (Nat.two_pow_pos _)

/-! impl_PressAll -/
theorem impl_PressAll.ev (l : List Int) (own : Bool) (s p : Int) : Ev (fun k => impl_PressAll.f k l own s p) (pressAll l own s p) := by
  obtain ⟨K, hK⟩ := ev_get (impl_isSet.ev l own [s, p])
  unfold pressAll
  cases e1 : (good l && inSet l.length s)
  · refine ⟨K, fun k hk => ?_⟩
    show impl_PressAll.f k l own s p = _
    unfold impl_PressAll.f
    rw [hK k hk, Option.bind_some, if_neg (by simp only [List.all_cons, List.all_nil, Bool.and_true]; rw [← Bool.and_assoc, e1]; simp)]
    rfl
  · cases e2 : inSet l.length p
    · refine ⟨K, fun k hk => ?_⟩
      show impl_PressAll.f k l own s p = _
      unfold impl_PressAll.f
      rw [hK k hk, Option.bind_some, if_neg (by simp only [List.all_cons, List.all_nil, Bool.and_true]; rw [← Bool.and_assoc, e1, e2]; simp)]
      rfl
    · simp only [Bool.and_eq_true] at e1
      have hG := (good_iff l).1 e1.1
      obtain ⟨hs0, hs1, hs2⟩ := inSet_lt e1.2
      obtain ⟨hp0, hp1, hp2⟩ := inSet_lt e2
      have hc := pow_cast l.length
      have h16 := pow16 hG.top
      obtain ⟨K2, hK2⟩ := ev_get (impl_Graph_effect.ev l own hG p hp0 (by omega))
      have hlt := eff_lt l own hG p.toNat
      refine ⟨K + K2, fun k hk => ?_⟩
      show impl_PressAll.f k l own s p = _
      unfold impl_PressAll.f
      rw [hK k (by omega), Option.bind_some, if_pos (by simp [e1.1, e1.2, e2]), hK2 k (by omega), Option.bind_some, effFrom_eff, xor_eq hs0 (by omega) (by omega) (by omega)]
      rfl

/-! spec_l1In -/
theorem spec_l1In.eq (x a b : Int) : spec_l1In.f x a b = some (decide (a ≤ x) && decide (x ≤ b)) := by
  unfold spec_l1In.f
  by_cases h : a ≤ x
  · rw [if_pos (by omega)]; simp [h]
  · rw [if_neg (by omega)]; simp [h]

/-! spec_l1All -/
theorem spec_l1All.loop (l : List Int) (a b : Int) (h : l.length < 4611686018427387904) (d : Nat) : ∀ i : Nat, l.length - i = d → i ≤ l.length → Ev (fun k => spec_l1All.l0 k a b l (l.length : Int) (i : Int)) ((l.drop i).all fun x => decide (a ≤ x) && decide (x ≤ b)) := by
  induction d with
  | zero =>
    intro i hd hi
    refine now fun k => ?_
    simp only [spec_l1All.l0]
    rw [if_neg (by omega), List.drop_eq_nil_of_le (by omega)]
    rfl
  | succ d ih =>
    intro i hd hi
    have hlt : i < l.length := by omega
    rw [drop_cons l i hlt, List.all_cons]
    by_cases e : (decide (a ≤ l[i]) && decide (l[i] ≤ b)) = true
    · refine Ev.step (f := fun k => spec_l1All.l0 k a b l (l.length : Int) ((i + 1 : Nat) : Int)) (fun k => ?_) (by rw [e, Bool.true_and]; exact ih (i + 1) (by omega) (by omega))
      simp only [spec_l1All.l0]
      rw [if_pos (by omega), if_pos (by omega), if_pos (by omega), rd_get l i hlt, spec_l1In.eq, e, wrap_succ i (by omega)]
      rfl
    · refine now fun k => ?_
      simp only [spec_l1All.l0]
      replace e := Bool.eq_false_iff.mpr e
      rw [if_pos (by omega), if_pos (by omega), if_pos (by omega), rd_get l i hlt, spec_l1In.eq, e]
      rfl
theorem spec_l1All.ev (l : List Int) (a b : Int) (h : l.length < 4611686018427387904) : Ev (fun k => spec_l1All.f k l a b) (l.all fun x => decide (a ≤ x) && decide (x ≤ b)) :=
  spec_l1All.loop l a b h l.length 0 (by omega) (by omega)

/-! spec_grIn -/
theorem spec_grIn.eq (x i : Int) (hx : 0 ≤ x) (hx1 : x < 2 ^ 63) (hi : 0 ≤ i) : spec_grIn.f x i = some (bit x i) := by unfold spec_grIn.f; rw [if_pos hi, in_bit hx hx1 hi]

/-! spec_grSize -/
theorem spec_grSize.eq (x : Int) : spec_grSize.f x = some (decide (1 ≤ x) && decide (x ≤ 16)) := by unfold spec_grSize.f; rw [spec_l1In.eq]; rfl

/-! spec_grGood -/
theorem spec_grGood.inner (l : List Int) (own : Bool) (hn : l.length ≤ 16) (hg : ∀ x ∈ l, 0 ≤ x ∧ x < 2 ^ l.length) (i : Nat) (hi : i < l.length) (r : Bool) (hr : Ev (fun k => spec_grGood.l0 k l (l.length : Int) ((i + 1 : Nat) : Int) l own) r) (d : Nat) :
    ∀ j : Nat, l.length - j = d → j ≤ l.length → Ev (fun k => spec_grGood.l1 k (i : Int) l[i] l (l.length : Int) (i : Int) (l.length : Int) (j : Int) l own) (((List.range' j (l.length - j)).all fun j => okPair l i j) && r) := by
  induction d with
  | zero =>
    intro j hd hj
    refine Ev.step (f := fun k => spec_grGood.l0 k l (l.length : Int) ((i + 1 : Nat) : Int) l own) (fun k => ?_) (by rw [hd]; simpa using hr)
    simp only [spec_grGood.l1]
    rw [if_neg (by omega), wrap_succ i (by omega)]
  | succ d ih =>
    intro j hd hj
    have hlt : j < l.length := by omega
    have hbi := set_bounds l hn hg i hi
    have hbj := set_bounds l hn hg j hlt
    rw [hd, List.range'_succ, List.all_cons, Bool.and_assoc]
    have ih' := ih (j + 1) (by omega) (by omega)
    rw [show l.length - (j + 1) = d by omega] at ih'
    have hb := spec_grIn.eq l[i] (j : Int) hbi.1 hbi.2 (by omega)
    have hb2 := spec_grIn.eq l[j] (i : Int) hbj.1 hbj.2 (by omega)
    have step : ∀ k, spec_grGood.l1 (k + 1) (i : Int) l[i] l (l.length : Int) (i : Int) (l.length : Int) (j : Int) l own = if okPair l i j = true then spec_grGood.l1 k (i : Int) l[i] l (l.length : Int) (i : Int) (l.length : Int) ((j + 1 : Nat) : Int) l own else some false := by
      intro k
      simp only [spec_grGood.l1]
      rw [if_pos (by omega), hb, Option.bind_some, okPair_eq l i j hi hlt]
      cases e1 : bit l[i] (j : Int)
      · simp only [Bool.false_eq_true, if_false, Bool.not_false, Bool.true_or, if_true]
        rw [wrap_succ j (by omega)]
      · simp only [if_true, Bool.not_true, Bool.false_or]
        by_cases e2 : i = j
        · subst e2
          simp
        · rw [if_neg (by omega), if_pos (by omega), if_pos (by omega), rd_get l j hlt, hb2, Option.bind_some, wrap_succ j (by omega)]
          simp [e2]
    cases e : okPair l i j
    · rw [Bool.false_and]
      exact now fun k => by rw [step k, e]; rfl
    · rw [Bool.true_and]
      exact Ev.step (fun k => by rw [step k, e]; rfl) ih'
theorem spec_grGood.outer (l : List Int) (own : Bool) (hn : l.length ≤ 16) (hg : ∀ x ∈ l, 0 ≤ x ∧ x < 2 ^ l.length) (d : Nat) :
    ∀ i : Nat, l.length - i = d → i ≤ l.length → Ev (fun k => spec_grGood.l0 k l (l.length : Int) (i : Int) l own) ((List.range' i (l.length - i)).all fun i => (List.range' 0 l.length).all fun j => okPair l i j) := by
  induction d with
  | zero =>
    intro i hd hi
    refine now fun k => ?_
    simp only [spec_grGood.l0]
    rw [if_neg (by omega), hd]
    rfl
  | succ d ih =>
    intro i hd hi
    have hlt : i < l.length := by omega
    rw [hd, List.range'_succ, List.all_cons]
    have ih' := ih (i + 1) (by omega) (by omega)
    rw [show l.length - (i + 1) = d by omega] at ih'
    refine Ev.step (f := fun k => spec_grGood.l1 k (i : Int) l[i] l (l.length : Int) (i : Int) (l.length : Int) ((0 : Nat) : Int) l own) (fun k => ?_) (spec_grGood.inner l own hn hg i hlt _ ih' l.length 0 (by omega) (by omega))
    simp only [spec_grGood.l0]
    rw [if_pos (by omega), if_pos (by omega), if_pos (by omega), rd_get l i hlt]
    rfl
theorem spec_grGood.ev (l : List Int) (own : Bool) (h : l.length < 4611686018427387904) : Ev (fun k => spec_grGood.f k l own) (good l) := by
  rw [good_eq]
  by_cases hn : 1 ≤ l.length ∧ l.length ≤ 16
  · have e1 : spec_grSize.f (l.length : Int) = some true := by rw [spec_grSize.eq, decide_eq_true (by omega), decide_eq_true (by omega)]; rfl
    have e2 := spec_l1All.ev l 0 (wrap64 ((shl .i64 1 (l.length : Int)) - 1)) h
    rw [whole_eq (by omega) (by omega)] at e2
    rw [show (decide (1 ≤ l.length ∧ l.length ≤ 16)) = true from decide_eq_true hn, Bool.true_and]
    have e3 : (l.all fun x => decide (0 ≤ x) && decide (x ≤ 2 ^ (l.length : Int).toNat - 1)) = l.all (inSet l.length) := by
      congr 1
      funext x
      unfold inSet
      rw [Int.toNat_natCast]
      congr 1
      rw [Bool.eq_iff_iff]
      simp only [decide_eq_true_eq]
      omega
    rw [e3] at e2
    obtain ⟨K, hK⟩ := e2
    by_cases hg : l.all (inSet l.length) = true
    · rw [hg, Bool.true_and]
      have hg' := inSet_all l hg
      obtain ⟨K2, hK2⟩ := spec_grGood.outer l own hn.2 hg' l.length 0 (by omega) (by omega)
      refine ⟨K + K2 + 1, fun k hk => ?_⟩
      obtain ⟨m, rfl⟩ : ∃ m, k = m + 1 := ⟨k - 1, by omega⟩
      have h1 : spec_l1All.f (m + 1) l 0 (2 ^ (l.length : Int).toNat - 1) = _ := hK (m + 1) (by omega)
      have h2 : spec_grGood.l0 m l (l.length : Int) ((0 : Nat) : Int) l own = _ := hK2 m (by omega)
      show spec_grGood.f (m + 1) l own = _
      unfold spec_grGood.f
      rw [e1, Option.bind_some, if_pos rfl, whole_eq (by omega) (by omega), h1, Option.bind_some, hg]
      simp only [spec_grGood.j0, Bool.not_true, Bool.false_eq_true, if_false]
      rw [Nat.sub_zero] at h2
      exact h2
    · replace hg := Bool.eq_false_iff.mpr hg
      rw [hg, Bool.false_and]
      refine ⟨K + 1, fun k hk => ?_⟩
      obtain ⟨m, rfl⟩ : ∃ m, k = m + 1 := ⟨k - 1, by omega⟩
      have h1 : spec_l1All.f (m + 1) l 0 (2 ^ (l.length : Int).toNat - 1) = _ := hK (m + 1) (by omega)
      show spec_grGood.f (m + 1) l own = _
      unfold spec_grGood.f
      rw [e1, Option.bind_some, if_pos rfl, whole_eq (by omega) (by omega), h1, Option.bind_some, hg]
      simp only [spec_grGood.j0, Bool.not_false, if_true]
  · have e1 : spec_grSize.f (l.length : Int) = some false := by
      rw [spec_grSize.eq]
      congr 1
      rw [Bool.and_eq_false_iff, decide_eq_false_iff_not, decide_eq_false_iff_not]
      omega
    rw [show (decide (1 ≤ l.length ∧ l.length ≤ 16)) = false from decide_eq_false hn, Bool.false_and]
    refine now fun k => ?_
    unfold spec_grGood.f
    rw [e1, Option.bind_some, if_neg (by decide)]
    simp only [spec_grGood.j0, if_true]

/-! spec_grSet -/
theorem spec_grSet.ev (l : List Int) (own : Bool) (s : Int) (h : l.length < 4611686018427387904) : Ev (fun k => spec_grSet.f k l own s) (good l && inSet l.length s) := by
  obtain ⟨K, hK⟩ := spec_grGood.ev l own h
  refine ⟨K, fun k hk => ?_⟩
  have h1 : spec_grGood.f k l own = _ := hK k hk
  show spec_grSet.f k l own s = _
  unfold spec_grSet.f
  rw [h1, Option.bind_some]
  cases hg : good l
  · rfl
  · have hG := (good_iff l).1 hg
    have := hG.top
    rw [if_pos rfl, whole_eq (by omega) (by omega), spec_l1In.eq, Option.bind_some, Bool.true_and, inSet_eq]

/-! spec_grToggles -/
theorem spec_grToggles.eq (l : List Int) (own : Bool) (hG : GoodG l) (i : Nat) (hi : i < l.length) : spec_grToggles.f l own (i : Int) = some (togg l own i) := by
  have h16 := hG.top
  have hx := hG.sets (rd l (i : Int)) (rd_mem l _ (by omega) (by omega))
  have hp := pow16 hG.top
  unfold spec_grToggles.f togg
  cases own
  · rw [if_neg (by decide), if_pos (by omega), if_pos (by omega), if_neg (by decide)]
  · have h2 : (2 : Nat) ^ i < 2 ^ 63 := Nat.pow_lt_pow_right (by decide) (by omega)
    rw [if_pos rfl, if_pos (by omega), if_pos (by omega), if_pos rfl, shl_one (by omega) (by omega), Int.toNat_natCast, or_eq hx.1 (by omega) (Int.natCast_nonneg _) (by exact_mod_cast h2)]
    rfl

/-! spec_grEffect -/
theorem spec_grEffect.loop (l : List Int) (own : Bool) (hG : GoodG l) (s : Int) (h0 : 0 ≤ s) (h1 : s < 2 ^ l.length) : ∀ (d i o : Nat), i + d = l.length → o < 2 ^ l.length → Ev (fun k => spec_grEffect.l0 k s (o : Int) (l.length : Int) (i : Int) l own) (effFrom l own s d i o : Int)
  | 0, i, o, hd, ho => by
    refine now fun k => ?_
    simp only [spec_grEffect.l0]
    rw [if_neg (by omega)]
    rfl
  | d + 1, i, o, hd, ho => by
    have h16 := pow16 hG.top
    have ht := hG.top
    have hc := pow_cast l.length
    have hb := togg_bounds l own hG i (by omega)
    have hin := spec_grIn.eq s (i : Int) h0 (by omega) (by omega)
    have htg := spec_grToggles.eq l own hG i (by omega)
    unfold effFrom
    cases e : bit s (i : Int)
    · refine Ev.step (f := fun k => spec_grEffect.l0 k s (o : Int) (l.length : Int) ((i + 1 : Nat) : Int) l own) (fun k => ?_) (by simpa only [Bool.false_eq_true, if_false] using spec_grEffect.loop l own hG s h0 h1 d (i + 1) o (by omega) ho)
      simp only [spec_grEffect.l0]
      rw [if_pos (by omega), hin, Option.bind_some, e, if_neg (by decide), wrap_succ i (by omega)]
    · have hx : o ^^^ (togg l own i).toNat < 2 ^ l.length := Nat.xor_lt_two_pow ho (by omega)
      refine Ev.step (f := fun k => spec_grEffect.l0 k s ((o ^^^ (togg l own i).toNat : Nat) : Int) (l.length : Int) ((i + 1 : Nat) : Int) l own) (fun k => ?_) (by simpa only [if_true] using spec_grEffect.loop l own hG s h0 h1 d (i + 1) _ (by omega) hx)
      simp only [spec_grEffect.l0]
      rw [if_pos (by omega), hin, Option.bind_some, e, if_pos rfl, htg, Option.bind_some, xor_eq (by omega) (by omega) hb.1 (by omega), Int.toNat_natCast, wrap_succ i (by omega)]
theorem spec_grEffect.ev (l : List Int) (own : Bool) (hG : GoodG l) (s : Int) (h0 : 0 ≤ s) (h1 : s < 2 ^ l.length) : Ev (fun k => spec_grEffect.f k l own s) (effFrom l own s l.length 0 0 : Int) :=
  spec_grEffect.loop l own hG s h0 h1 l.length 0 0 (by omega) (Nat.two_pow_pos _)

/-! spec_PressAll -/
theorem spec_PressAll.ev (l : List Int) (own : Bool) (s p : Int) (h : l.length < 4611686018427387904) : Ev (fun k => spec_PressAll.f k l own s p) (pressAll l own s p) := by
  obtain ⟨K, hK⟩ := ev_and (spec_grSet.ev l own s h) (spec_grSet.ev l own p h)
  unfold pressAll
  cases e1 : (good l && inSet l.length s)
  · refine ⟨K, fun k hk => ?_⟩
    show spec_PressAll.f k l own s p = _
    unfold spec_PressAll.f
    rw [(hK k hk).1, Option.bind_some, e1]
    rfl
  · cases e2 : inSet l.length p
    · refine ⟨K, fun k hk => ?_⟩
      show spec_PressAll.f k l own s p = _
      unfold spec_PressAll.f
      rw [(hK k hk).1, Option.bind_some, e1, if_pos rfl, (hK k hk).2, Option.bind_some, if_neg (by simp [e2])]
      rfl
    · simp only [Bool.and_eq_true] at e1
      have hG := (good_iff l).1 e1.1
      obtain ⟨hs0, hs1, hs2⟩ := inSet_lt e1.2
      obtain ⟨hp0, hp1, hp2⟩ := inSet_lt e2
      have hc := pow_cast l.length
      have h16 := pow16 hG.top
      obtain ⟨K2, hK2⟩ := ev_get (spec_grEffect.ev l own hG p hp0 (by omega))
      have hlt := eff_lt l own hG p.toNat
      refine ⟨K + K2, fun k hk => ?_⟩
      show spec_PressAll.f k l own s p = _
      unfold spec_PressAll.f
      rw [(hK k (by omega)).1, Option.bind_some, if_pos (by simp [e1.1, e1.2]), (hK k (by omega)).2, Option.bind_some, if_pos (by simp [e1.1, e2]), hK2 k (by omega), Option.bind_some, effFrom_eff, xor_eq hs0 (by omega) (by omega) (by omega)]
      rfl

/-! impl_hasButton -/
theorem impl_hasButton.p_eq (n : Nat) (h : n ≤ 16) (s : Int) : impl_hasButton.p n s = !(isBtn n s) := by
  unfold impl_hasButton.p
  rw [wrap_id (by omega) (by omega), impl_in.eq]
  rfl
theorem impl_hasButton.ev (l : List Int) (own : Bool) (ss : List Int) : Ev (fun k => impl_hasButton.f k l own ss) (good l && ss.all (isBtn l.length)) := by
  obtain ⟨K, hK⟩ := impl_isGraph.ev l own
  refine ⟨K, fun k hk => ?_⟩
  have h1 : impl_isGraph.f k l own = _ := hK k hk
  show impl_hasButton.f k l own ss = _
  unfold impl_hasButton.f
  rw [h1, Option.bind_some]
  cases hg : good l
  · rfl
  · have := ((good_iff l).1 hg).top
    rw [if_pos rfl, Bool.true_and, show impl_hasButton.p l.length = (fun s => !(isBtn l.length s)) from funext (impl_hasButton.p_eq l.length this), List.not_any_eq_all_not]
    simp

/-! impl_PressWord -/
theorem impl_PressWord.loop (l : List Int) (own : Bool) (hG : GoodG l) (w : List Int) (hw : w.length < 4611686018427387904) (hb : ∀ x ∈ w, 0 ≤ x ∧ x < l.length) (d : Nat) :
    ∀ (i : Nat) (s : Int), w.length - i = d → i ≤ w.length → 0 ≤ s → s < 2 ^ l.length → Ev (fun k => impl_PressWord.l0 k s w (w.length : Int) (i : Int) l own) (pressGo l own s (w.drop i), true) := by
  have h16 := pow16 hG.top
  induction d with
  | zero =>
    intro i s hd hi h0 h1
    refine now fun k => ?_
    simp only [impl_PressWord.l0]
    rw [if_neg (by omega), List.drop_eq_nil_of_le (by omega)]
    rfl
  | succ d ih =>
    intro i s hd hi h0 h1
    have hlt : i < w.length := by omega
    have hx := hb w[i] (List.getElem_mem _)
    rw [drop_cons w i hlt, pressGo]
    obtain ⟨j, hj⟩ : ∃ j : Nat, w[i] = j := ⟨w[i].toNat, by omega⟩
    have ht := togg_bounds l own hG j (by omega)
    have hy := impl_Graph_toggles.eq l own hG j (by omega)
    rw [hj, Int.toNat_natCast]
    refine Ev.step (f := fun k => impl_PressWord.l0 k (xorI s (togg l own j)) w (w.length : Int) ((i + 1 : Nat) : Int) l own) (fun k => ?_) (ih (i + 1) _ (by omega) (by omega) (by unfold xorI; omega) (xor_lt h1 ht.2 h0 ht.1))
    simp only [impl_PressWord.l0]
    rw [if_pos (by omega), if_pos (by omega), if_pos (by omega), rd_get w i hlt, hj, hy, Option.bind_some, xor_eq h0 (by omega) ht.1 (by omega), wrap_succ i (by omega)]
    rfl
theorem impl_PressWord.ev (l : List Int) (own : Bool) (s : Int) (w : List Int) (hw : w.length < 4611686018427387904) : Ev (fun k => impl_PressWord.f k l own s w) (pressWord l own s w) := by
  obtain ⟨K, hK⟩ := ev_get ((show Ev (fun k => impl_isSet.f k l own [s]) (good l && inSet l.length s) by have h := impl_isSet.ev l own [s]; simpa using h))
  obtain ⟨K3, hK3⟩ := (show ∃ K, GoodG l → ∀ k, K ≤ k → impl_hasButton.f k l own w = some (good l && w.all (isBtn l.length)) by obtain ⟨K, h⟩ := impl_hasButton.ev l own w; exact ⟨K, fun _ => h⟩)
  unfold pressWord
  cases e1 : (good l && inSet l.length s)
  · refine ⟨K + 1, fun k hk => ?_⟩
    obtain ⟨m, rfl⟩ : ∃ m, k = m + 1 := ⟨k - 1, by omega⟩
    show impl_PressWord.f (m + 1) l own s w = _
    unfold impl_PressWord.f
    rw [hK (m + 1) (by omega), Option.bind_some, if_neg (by simpa using e1)]
    simp only [impl_PressWord.j0, if_true]
    rfl
  · have hg : good l = true := by simp only [Bool.and_eq_true] at e1; exact e1.1
    have hG : GoodG l := (good_iff l).1 hg
    have hn := hG.top
    by_cases e3 : w.length ≤ 200
    · cases e2 : w.all (isBtn l.length)
      · refine ⟨K + K3 + 1, fun k hk => ?_⟩
        obtain ⟨m, rfl⟩ : ∃ m, k = m + 1 := ⟨k - 1, by omega⟩
        show impl_PressWord.f (m + 1) l own s w = _
        unfold impl_PressWord.f
        rw [hK (m + 1) (by omega), Option.bind_some, if_pos (by simpa using e1), if_neg (by omega), hK3 hG (m + 1) (by omega), Option.bind_some]
        simp only [hg, e2, Bool.and_false, Bool.not_false, impl_PressWord.j0, if_true]
        simp [wordOk, e2]
      · have hs := inSet_lt (show inSet l.length s = true by simp only [Bool.and_eq_true] at e1; exact e1.2)
        have hc := pow_cast l.length
        obtain ⟨K2, hK2⟩ := ev_get (impl_PressWord.loop l own hG w hw (btn_all e2) w.length 0 s (by omega) (by omega) hs.1 (by omega))
        refine ⟨K + K2 + K3 + 1, fun k hk => ?_⟩
        obtain ⟨m, rfl⟩ : ∃ m, k = m + 1 := ⟨k - 1, by omega⟩
        show impl_PressWord.f (m + 1) l own s w = _
        unfold impl_PressWord.f
        rw [hK (m + 1) (by omega), Option.bind_some, if_pos (by simpa using e1), if_neg (by omega), hK3 hG (m + 1) (by omega), Option.bind_some]
        simp only [hg, e2, Bool.and_true, Bool.not_true, impl_PressWord.j0, Bool.false_eq_true, if_false]
        have := hK2 m (by omega)
        simp only [List.drop_zero] at this
        rw [if_pos trivial, if_pos (by simp [wordOk, e2, e3])]
        exact this
    · refine ⟨K + 1, fun k hk => ?_⟩
      obtain ⟨m, rfl⟩ : ∃ m, k = m + 1 := ⟨k - 1, by omega⟩
      show impl_PressWord.f (m + 1) l own s w = _
      unfold impl_PressWord.f
      rw [hK (m + 1) (by omega), Option.bind_some, if_pos (by simpa using e1), if_pos (by omega)]
      simp only [impl_PressWord.j0, if_true]
      simp [wordOk, e3]

/-! spec_PressWord -/
theorem spec_PressWord.loop (l : List Int) (own : Bool) (hG : GoodG l) (w : List Int) (hw : w.length < 4611686018427387904) (hb : ∀ x ∈ w, 0 ≤ x ∧ x < l.length) (d : Nat) :
    ∀ (i : Nat) (s : Int), w.length - i = d → i ≤ w.length → 0 ≤ s → s < 2 ^ l.length → Ev (fun k => spec_PressWord.l0 k s w (w.length : Int) (i : Int) l own) (pressGo l own s (w.drop i), true) := by
  have h16 := pow16 hG.top
  induction d with
  | zero =>
    intro i s hd hi h0 h1
    refine now fun k => ?_
    simp only [spec_PressWord.l0]
    rw [if_neg (by omega), List.drop_eq_nil_of_le (by omega)]
    rfl
  | succ d ih =>
    intro i s hd hi h0 h1
    have hlt : i < w.length := by omega
    have hx := hb w[i] (List.getElem_mem _)
    rw [drop_cons w i hlt, pressGo]
    obtain ⟨j, hj⟩ : ∃ j : Nat, w[i] = j := ⟨w[i].toNat, by omega⟩
    have ht := togg_bounds l own hG j (by omega)
    have hy := spec_grToggles.eq l own hG j (by omega)
    rw [hj, Int.toNat_natCast]
    refine Ev.step (f := fun k => spec_PressWord.l0 k (xorI s (togg l own j)) w (w.length : Int) ((i + 1 : Nat) : Int) l own) (fun k => ?_) (ih (i + 1) _ (by omega) (by omega) (by unfold xorI; omega) (xor_lt h1 ht.2 h0 ht.1))
    simp only [spec_PressWord.l0]
    rw [if_pos (by omega), if_pos (by omega), if_pos (by omega), rd_get w i hlt, hj, hy, Option.bind_some, xor_eq h0 (by omega) ht.1 (by omega), wrap_succ i (by omega)]
    rfl
theorem spec_PressWord.ev (l : List Int) (own : Bool) (s : Int) (w : List Int) (h : l.length < 4611686018427387904) (hw : w.length < 4611686018427387904) : Ev (fun k => spec_PressWord.f k l own s w) (pressWord l own s w) := by
  obtain ⟨K, hK⟩ := ev_get (spec_grSet.ev l own s h)
  obtain ⟨K3, hK3⟩ := (show ∃ K, GoodG l → ∀ k, K ≤ k → spec_l1All.f k w 0 (wrap64 ((l.length : Int) - 1)) = some (good l && w.all (isBtn l.length)) by
    obtain ⟨K, h1⟩ := ev_get (spec_l1All.ev w 0 (wrap64 ((l.length : Int) - 1)) hw)
    refine ⟨K, fun hG k hk => ?_⟩
    have hn := hG.top
    rw [h1 k hk, (good_iff l).2 hG, Bool.true_and, wrap_id (by omega) (by omega)]
    rfl)
  unfold pressWord
  cases e1 : (good l && inSet l.length s)
  · refine ⟨K + 1, fun k hk => ?_⟩
    obtain ⟨m, rfl⟩ : ∃ m, k = m + 1 := ⟨k - 1, by omega⟩
    show spec_PressWord.f (m + 1) l own s w = _
    unfold spec_PressWord.f
    rw [hK (m + 1) (by omega), Option.bind_some, if_neg (by simpa using e1)]
    simp only [spec_PressWord.j0, if_true]
    rfl
  · have hg : good l = true := by simp only [Bool.and_eq_true] at e1; exact e1.1
    have hG : GoodG l := (good_iff l).1 hg
    have hn := hG.top
    by_cases e3 : w.length ≤ 200
    · cases e2 : w.all (isBtn l.length)
      · refine ⟨K + K3 + 1, fun k hk => ?_⟩
        obtain ⟨m, rfl⟩ : ∃ m, k = m + 1 := ⟨k - 1, by omega⟩
        show spec_PressWord.f (m + 1) l own s w = _
        unfold spec_PressWord.f
        rw [hK (m + 1) (by omega), Option.bind_some, if_pos (by simpa using e1), if_neg (by omega), hK3 hG (m + 1) (by omega), Option.bind_some]
        simp only [hg, e2, Bool.and_false, Bool.not_false, spec_PressWord.j0, if_true]
        simp [wordOk, e2]
      · have hs := inSet_lt (show inSet l.length s = true by simp only [Bool.and_eq_true] at e1; exact e1.2)
        have hc := pow_cast l.length
        obtain ⟨K2, hK2⟩ := ev_get (spec_PressWord.loop l own hG w hw (btn_all e2) w.length 0 s (by omega) (by omega) hs.1 (by omega))
        refine ⟨K + K2 + K3 + 1, fun k hk => ?_⟩
        obtain ⟨m, rfl⟩ : ∃ m, k = m + 1 := ⟨k - 1, by omega⟩
        show spec_PressWord.f (m + 1) l own s w = _
        unfold spec_PressWord.f
        rw [hK (m + 1) (by omega), Option.bind_some, if_pos (by simpa using e1), if_neg (by omega), hK3 hG (m + 1) (by omega), Option.bind_some]
        simp only [hg, e2, Bool.and_true, Bool.not_true, spec_PressWord.j0, Bool.false_eq_true, if_false]
        have := hK2 m (by omega)
        simp only [List.drop_zero] at this
        rw [if_pos trivial, if_pos (by simp [wordOk, e2, e3])]
        exact this
    · refine ⟨K + 1, fun k hk => ?_⟩
      obtain ⟨m, rfl⟩ : ∃ m, k = m + 1 := ⟨k - 1, by omega⟩
      show spec_PressWord.f (m + 1) l own s w = _
      unfold spec_PressWord.f
      rw [hK (m + 1) (by omega), Option.bind_some, if_pos (by simpa using e1), if_pos (by omega)]
      simp only [spec_PressWord.j0, if_true]
      simp [wordOk, e3]

/-! impl_PressButton -/
theorem impl_PressButton.ev (l : List Int) (own : Bool) (s i : Int) : Ev (fun k => impl_PressButton.f k l own s i) (pressWord l own s [i]) := by
  obtain ⟨K, hK⟩ := ev_get (impl_PressWord.ev l own s [i] (by simp))
  refine ⟨K, fun k hk => ?_⟩
  show impl_PressButton.f k l own s i = _
  unfold impl_PressButton.f
  rw [hK k hk]
  rfl

/-! spec_grButton -/
theorem spec_grButton.ev (l : List Int) (own : Bool) (i : Int) (h : l.length < 4611686018427387904) : Ev (fun k => spec_grButton.f k l own i) (good l && isBtn l.length i) := by
  obtain ⟨K, hK⟩ := ev_get (spec_grGood.ev l own h)
  refine ⟨K, fun k hk => ?_⟩
  show spec_grButton.f k l own i = _
  unfold spec_grButton.f
  rw [hK k hk, Option.bind_some]
  cases e : good l
  · rfl
  · rw [if_pos rfl, wrap_id (by omega) (by omega), spec_l1In.eq]
    rfl

/-! spec_PressButton -/
theorem spec_PressButton.ev (l : List Int) (own : Bool) (s i : Int) (h : l.length < 4611686018427387904) : Ev (fun k => spec_PressButton.f k l own s i) (pressWord l own s [i]) := by
  obtain ⟨K, hK⟩ := ev_and (spec_grSet.ev l own s h) (spec_grButton.ev l own i h)
  refine ⟨K, fun k hk => ?_⟩
  show spec_PressButton.f k l own s i = _
  unfold spec_PressButton.f pressWord
  rw [(hK k hk).1, Option.bind_some]
  cases e1 : (good l && inSet l.length s)
  · rfl
  · rw [if_pos rfl, (hK k hk).2, Option.bind_some, if_pos rfl]
    simp only [Bool.and_eq_true] at e1
    cases e2 : isBtn l.length i
    · rw [if_neg (by simp)]
      simp [wordOk, e2]
    · have hG := (good_iff l).1 e1.1
      have hs := inSet_lt e1.2
      have hc := pow_cast l.length
      have h16 := pow16 hG.top
      have hi : 0 ≤ i ∧ i < l.length := btn_all (w := [i]) (by simp [e2]) i (by simp)
      obtain ⟨j, rfl⟩ : ∃ j : Nat, i = j := ⟨i.toNat, by omega⟩
      have ht := togg_bounds l own hG j (by omega)
      rw [e1.1, if_pos (by simp), spec_grToggles.eq l own hG j (by omega), Option.bind_some, if_pos (by simp [wordOk, e2]), xor_eq hs.1 (by omega) ht.1 (by omega)]
      rfl

/-! impl_TogglesOf -/
theorem impl_TogglesOf.ev (l : List Int) (own : Bool) (i : Int) : Ev (fun k => impl_TogglesOf.f k l own i) (togglesOf l own i) := by
  obtain ⟨K, hK⟩ := ev_get ((show Ev (fun k => impl_hasButton.f k l own [i]) (good l && isBtn l.length i) by have h := impl_hasButton.ev l own [i]; simpa using h))
  refine ⟨K, fun k hk => ?_⟩
  show impl_TogglesOf.f k l own i = _
  unfold impl_TogglesOf.f togglesOf
  rw [hK k hk, Option.bind_some]
  cases e1 : (good l && isBtn l.length i)
  · rfl
  · simp only [Bool.and_eq_true] at e1
    have hG := (good_iff l).1 e1.1
    have hi : 0 ≤ i ∧ i < l.length := btn_all (w := [i]) (by simp [e1.2]) i (by simp)
    obtain ⟨j, rfl⟩ : ∃ j : Nat, i = j := ⟨i.toNat, by omega⟩
    rw [if_pos rfl, impl_Graph_toggles.eq l own hG j (by omega), Option.bind_some, if_pos rfl]
    rfl

/-! spec_TogglesOf -/
theorem spec_TogglesOf.ev (l : List Int) (own : Bool) (i : Int) (h : l.length < 4611686018427387904) : Ev (fun k => spec_TogglesOf.f k l own i) (togglesOf l own i) := by
  obtain ⟨K, hK⟩ := ev_get (spec_grButton.ev l own i h)
  refine ⟨K, fun k hk => ?_⟩
  show spec_TogglesOf.f k l own i = _
  unfold spec_TogglesOf.f togglesOf
  rw [hK k hk, Option.bind_some]
  cases e1 : (good l && isBtn l.length i)
  · rfl
  · simp only [Bool.and_eq_true] at e1
    have hG := (good_iff l).1 e1.1
    have hi : 0 ≤ i ∧ i < l.length := btn_all (w := [i]) (by simp [e1.2]) i (by simp)
    obtain ⟨j, rfl⟩ : ∃ j : Nat, i = j := ⟨i.toNat, by omega⟩
    rw [if_pos rfl, spec_grToggles.eq l own hG j (by omega), Option.bind_some, if_pos rfl]
    rfl

/-! impl_EffectOf -/
theorem inSet_zero (n : Nat) : inSet n 0 = true := inSet_of (n := n) (s := 0) (Nat.two_pow_pos n)
theorem impl_EffectOf.ev (l : List Int) (own : Bool) (p : Int) : Ev (fun k => impl_EffectOf.f k l own p) (pressAll l own 0 p) := by
  obtain ⟨K, hK⟩ := ev_get (impl_PressAll.ev l own 0 p)
  refine ⟨K, fun k hk => ?_⟩
  show impl_EffectOf.f k l own p = _
  unfold impl_EffectOf.f
  rw [hK k hk]
  rfl

/-! spec_EffectOf -/
theorem spec_EffectOf.ev (l : List Int) (own : Bool) (p : Int) (h : l.length < 4611686018427387904) : Ev (fun k => spec_EffectOf.f k l own p) (pressAll l own 0 p) := by
  obtain ⟨K, hK⟩ := ev_get (spec_grSet.ev l own p h)
  unfold pressAll
  rw [show inSet l.length 0 = true from inSet_of (n := l.length) (s := 0) (Nat.two_pow_pos _), Bool.and_true]
  cases e1 : good l
  · refine ⟨K, fun k hk => ?_⟩
    show spec_EffectOf.f k l own p = _
    unfold spec_EffectOf.f
    rw [hK k hk, Option.bind_some, e1]
    rfl
  · cases e2 : inSet l.length p
    · refine ⟨K, fun k hk => ?_⟩
      show spec_EffectOf.f k l own p = _
      unfold spec_EffectOf.f
      rw [hK k hk, Option.bind_some, e1, e2]
      rfl
    · have hG := (good_iff l).1 e1
      obtain ⟨hp0, hp1, hp2⟩ := inSet_lt e2
      have hc := pow_cast l.length
      obtain ⟨K2, hK2⟩ := ev_get (spec_grEffect.ev l own hG p hp0 (by omega))
      refine ⟨K + K2, fun k hk => ?_⟩
      show spec_EffectOf.f k l own p = _
      unfold spec_EffectOf.f
      rw [hK k (by omega), Option.bind_some, e1, e2, if_pos rfl, hK2 k (by omega), Option.bind_some, effFrom_eff]
      simp [xorI]
end Go.Proofs.Ythedhenndfaipaa.Pure
