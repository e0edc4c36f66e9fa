/- What the functions of FnExactIsDesk compute, in plain words. -/
import Derived.Test.YtijccendobcndaaPFnExactIsDeskx5
import Derived.Test.YtijccendobcndaaM1
import Derived.Test.YtijccendobcndaaM2
namespace Go.Proofs.Ytijccendobcndaa.Pure
open Go.RowKit Go.Proofs.Ytijccendobcndaa.PFnExactIsDesk Go.Proofs.YtijccendobcndaaW.PrintWords Go.Proofs.YtijccendobcndaaW.PrintLast Go.Proofs.YtijccendobcndaaW.PrintMore Go.Proofs.YtijccendobcndaaM
set_option linter.unusedVariables false
set_option linter.unusedSimpArgs false
/-! laws_eqIntS -/
theorem laws_eqIntS.loop (a b : List Int) (hl : a.length = b.length) (h : a.length < 4611686018427387904) (d : Nat) : ∀ i : Nat, a.length - i = d → i ≤ a.length → Ev (fun k => laws_eqIntS.l0 k a b (i : Int)) (decide (a.drop i = b.drop i)) := by
  induction d with
  | zero =>
    intro i hd hi
    refine now fun k => ?_
    simp only [laws_eqIntS.l0]
    rw [if_neg (by omega), List.drop_eq_nil_of_le (by omega), List.drop_eq_nil_of_le (by omega)]
    rfl
  | succ d ih =>
    intro i hd hi
    have hlt : i < a.length := by omega
    have hltb : i < b.length := by omega
    rw [drop_cons a i hlt, drop_cons b i hltb]
    by_cases e : a[i] = b[i]
    · have := ih (i + 1) (by omega) (by omega)
      refine Ev.step (f := fun k => laws_eqIntS.l0 k a b ((i + 1 : Nat) : Int)) (fun k => ?_) (by rw [show decide (a[i] :: a.drop (i + 1) = b[i] :: b.drop (i + 1)) = decide (a.drop (i + 1) = b.drop (i + 1)) by simp only [List.cons.injEq, e, true_and]]; exact this)
      simp only [laws_eqIntS.l0]
      rw [if_pos (by omega), if_pos (by omega), if_pos (by omega), rd_get a i hlt, rd_get b i hltb, if_pos e, wrap_succ i (by omega)]
    · refine now fun k => ?_
      simp only [laws_eqIntS.l0]
      rw [if_pos (by omega), if_pos (by omega), if_pos (by omega), rd_get a i hlt, rd_get b i hltb, if_neg e, show decide (a[i] :: a.drop (i + 1) = b[i] :: b.drop (i + 1)) = false by simp only [List.cons.injEq, e, false_and, decide_false]]
theorem laws_eqIntS.ev (a b : List Int) (h : a.length < 4611686018427387904) : Ev (fun k => laws_eqIntS.f k a b) (decide (a = b)) := by
  by_cases hl : a.length = b.length
  · have := laws_eqIntS.loop a b hl h a.length 0 (by omega) (by omega)
    refine Ev.congr (f := fun k => laws_eqIntS.l0 k a b ((0 : Nat) : Int)) (fun k => ?_) (by simpa using this)
    unfold laws_eqIntS.f
    rw [if_pos (by omega)]
    rfl
  · refine always fun k => ?_
    unfold laws_eqIntS.f
    rw [if_neg (by omega)]
    have : ¬ a = b := fun e => hl (by rw [e])
    simp [this]

/-! laws_eqGraph -/
theorem laws_eqGraph.ev (a : List Int) (x : Bool) (b : List Int) (y : Bool) (h : a.length < 4611686018427387904) : Ev (fun k => laws_eqGraph.f k a x b y) (decide (a = b) && (x == y)) := by
  obtain ⟨K, hK⟩ := laws_eqIntS.ev a b h
  refine ⟨K, fun k hk => ?_⟩
  have h1 : laws_eqIntS.f k a b = _ := hK k hk
  simp only [laws_eqGraph.f, h1, Option.bind_some]
  cases x <;> cases y <;> by_cases e : a = b <;> simp [e]

/-! laws_eqDesk -/
theorem laws_eqDesk.ev (a : List Int) (x : Bool) (s : Int) (b : List Int) (y : Bool) (t : Int) (h : a.length < 4611686018427387904) : Ev (fun k => laws_eqDesk.f k a x s b y t) (decide (a = b) && (x == y) && decide (s = t)) := by
  obtain ⟨K, hK⟩ := laws_eqGraph.ev a x b y h
  refine ⟨K, fun k hk => ?_⟩
  have h1 : laws_eqGraph.f k a x b y = _ := hK k hk
  show laws_eqDesk.f k a x s b y t = _
  unfold laws_eqDesk.f
  rw [h1, Option.bind_some]
  cases (decide (a = b) && (x == y)) <;> by_cases e : s = t <;> simp [e]

/-! laws_szIntS -/
theorem laws_szIntS.eq (l : List Int) (n : Int) (h0 : 0 ≤ n) (h1 : n ≤ 1048576) (h : l.length ≤ 35184372088832) : laws_szIntS.f l n = some (if n < l.length then -1 else n - l.length) := by
  unfold laws_szIntS.f
  rw [wrap_id (by omega) (by omega)]
  by_cases e : n < l.length
  · rw [if_pos (by omega), if_pos e]
  · rw [if_neg (by omega), if_neg e]

/-! laws_szGraph -/
theorem laws_szGraph.eq (l : List Int) (b : Bool) (n : Int) (h0 : 0 ≤ n) (h1 : n ≤ 1048576) (h : l.length ≤ 35184372088832) : laws_szGraph.f l b n = some (if n < l.length then -1 else n - l.length) := by
  unfold laws_szGraph.f
  rw [laws_szIntS.eq l n h0 h1 h]
  by_cases e : n < l.length
  · simp [e]
  · have : ¬ (n - l.length < 0) := by omega
    simp [e]
    omega

/-! laws_szDesk -/
theorem laws_szDesk.eq (l : List Int) (b : Bool) (s n : Int) (h0 : 0 ≤ n) (h1 : n ≤ 1048576) (h : l.length ≤ 35184372088832) : laws_szDesk.f l b s n = some (if n < l.length then -1 else n - l.length) := by
  unfold laws_szDesk.f
  rw [laws_szGraph.eq l b n h0 h1 h]
  by_cases e : n < l.length
  · simp [e]
  · have : ¬ (n - l.length < 0) := by omega
    simp [e]
    omega

/-! spec_l1In -/
theorem spec_l1In.eq (x a b : Int) : spec_l1In.f x a b = some (decide (a ≤ x) && decide (x ≤ b)) := by
  unfold spec_l1In.f
  by_cases h : a ≤ x
  · rw [if_pos (by omega)]; simp [h]
  · rw [if_neg (by omega)]; simp [h]

/-! spec_grIn -/
theorem spec_grIn.eq (x i : Int) (hx : 0 ≤ x) (hx1 : x < 2 ^ 63) (hi : 0 ≤ i) : spec_grIn.f x i = some (bit x i) := by unfold spec_grIn.f; rw [if_pos hi, in_bit hx hx1 hi]

/-! spec_grSize -/
theorem spec_grSize.eq (x : Int) : spec_grSize.f x = some (decide (1 ≤ x) && decide (x ≤ 16)) := by unfold spec_grSize.f; rw [spec_l1In.eq]; rfl

/-! spec_l1All -/
theorem spec_l1All.loop (l : List Int) (a b : Int) (h : l.length < 4611686018427387904) (d : Nat) : ∀ i : Nat, l.length - i = d → i ≤ l.length → Ev (fun k => spec_l1All.l0 k a b l (l.length : Int) (i : Int)) ((l.drop i).all fun x => decide (a ≤ x) && decide (x ≤ b)) := by
  induction d with
  | zero =>
    intro i hd hi
    refine now fun k => ?_
    simp only [spec_l1All.l0]
    rw [if_neg (by omega), List.drop_eq_nil_of_le (by omega)]
    rfl
  | succ d ih =>
    intro i hd hi
    have hlt : i < l.length := by omega
    rw [drop_cons l i hlt, List.all_cons]
    by_cases e : (decide (a ≤ l[i]) && decide (l[i] ≤ b)) = true
    · refine Ev.step (f := fun k => spec_l1All.l0 k a b l (l.length : Int) ((i + 1 : Nat) : Int)) (fun k => ?_) (by rw [e, Bool.true_and]; exact ih (i + 1) (by omega) (by omega))
      simp only [spec_l1All.l0]
      rw [if_pos (by omega), if_pos (by omega), if_pos (by omega), rd_get l i hlt, spec_l1In.eq, e, wrap_succ i (by omega)]
      rfl
    · refine now fun k => ?_
      simp only [spec_l1All.l0]
      replace e := Bool.eq_false_iff.mpr e
      rw [if_pos (by omega), if_pos (by omega), if_pos (by omega), rd_get l i hlt, spec_l1In.eq, e]
      rfl
theorem spec_l1All.ev (l : List Int) (a b : Int) (h : l.length < 4611686018427387904) : Ev (fun k => spec_l1All.f k l a b) (l.all fun x => decide (a ≤ x) && decide (x ≤ b)) :=
  spec_l1All.loop l a b h l.length 0 (by omega) (by omega)

/-! spec_grGood -/
theorem spec_grGood.inner (l : List Int) (own : Bool) (hn : l.length ≤ 16) (hg : ∀ x ∈ l, 0 ≤ x ∧ x < 2 ^ l.length) (i : Nat) (hi : i < l.length) (r : Bool) (hr : Ev (fun k => spec_grGood.l0 k l (l.length : Int) ((i + 1 : Nat) : Int) l own) r) (d : Nat) :
    ∀ j : Nat, l.length - j = d → j ≤ l.length → Ev (fun k => spec_grGood.l1 k (i : Int) l[i] l (l.length : Int) (i : Int) (l.length : Int) (j : Int) l own) (((List.range' j (l.length - j)).all fun j => okPair l i j) && r) := by
  induction d with
  | zero =>
    intro j hd hj
    refine Ev.step (f := fun k => spec_grGood.l0 k l (l.length : Int) ((i + 1 : Nat) : Int) l own) (fun k => ?_) (by rw [hd]; simpa using hr)
    simp only [spec_grGood.l1]
    rw [if_neg (by omega), wrap_succ i (by omega)]
  | succ d ih =>
    intro j hd hj
    have hlt : j < l.length := by omega
    have hbi := set_bounds l hn hg i hi
    have hbj := set_bounds l hn hg j hlt
    rw [hd, List.range'_succ, List.all_cons, Bool.and_assoc]
    have ih' := ih (j + 1) (by omega) (by omega)
    rw [show l.length - (j + 1) = d by omega] at ih'
    have hb := spec_grIn.eq l[i] (j : Int) hbi.1 hbi.2 (by omega)
    have hb2 := spec_grIn.eq l[j] (i : Int) hbj.1 hbj.2 (by omega)
    have step : ∀ k, spec_grGood.l1 (k + 1) (i : Int) l[i] l (l.length : Int) (i : Int) (l.length : Int) (j : Int) l own = if okPair l i j = true then spec_grGood.l1 k (i : Int) l[i] l (l.length : Int) (i : Int) (l.length : Int) ((j + 1 : Nat) : Int) l own else some false := by
      intro k
      simp only [spec_grGood.l1]
      rw [if_pos (by omega), hb, Option.bind_some, okPair_eq l i j hi hlt]
      cases e1 : bit l[i] (j : Int)
      · simp only [Bool.false_eq_true, if_false, Bool.not_false, Bool.true_or, if_true]
        rw [wrap_succ j (by omega)]
      · simp only [if_true, Bool.not_true, Bool.false_or]
        by_cases e2 : i = j
        · subst e2
          simp
        · rw [if_neg (by omega), if_pos (by omega), if_pos (by omega), rd_get l j hlt, hb2, Option.bind_some, wrap_succ j (by omega)]
          simp [e2]
    cases e : okPair l i j
    · rw [Bool.false_and]
      exact now fun k => by rw [step k, e]; rfl
    · rw [Bool.true_and]
      exact Ev.step (fun k => by rw [step k, e]; rfl) ih'
theorem spec_grGood.outer (l : List Int) (own : Bool) (hn : l.length ≤ 16) (hg : ∀ x ∈ l, 0 ≤ x ∧ x < 2 ^ l.length) (d : Nat) :
    ∀ i : Nat, l.length - i = d → i ≤ l.length → Ev (fun k => spec_grGood.l0 k l (l.length : Int) (i : Int) l own) ((List.range' i (l.length - i)).all fun i => (List.range' 0 l.length).all fun j => okPair l i j) := by
  induction d with
  | zero =>
    intro i hd hi
    refine now fun k => ?_
    simp only [spec_grGood.l0]
    rw [if_neg (by omega), hd]
    rfl
  | succ d ih =>
    intro i hd hi
    have hlt : i < l.length := by omega
    rw [hd, List.range'_succ, List.all_cons]
    have ih' := ih (i + 1) (by omega) (by omega)
    rw [show l.length - (i + 1) = d by omega] at ih'
    refine Ev.step (f := fun k => spec_grGood.l1 k (i : Int) l[i] l (l.length : Int) (i : Int) (l.length : Int) ((0 : Nat) : Int) l own) (fun k => ?_) (spec_grGood.inner l own hn hg i hlt _ ih' l.length 0 (by omega) (by omega))
    simp only [spec_grGood.l0]
    rw [if_pos (by omega), if_pos (by omega), if_pos (by omega), rd_get l i hlt]
    rfl
theorem spec_grGood.ev (l : List Int) (own : Bool) (h : l.length < 4611686018427387904) : Ev (fun k => spec_grGood.f k l own) (good l) := by
  rw [good_eq]
  by_cases hn : 1 ≤ l.length ∧ l.length ≤ 16
  · have e1 : spec_grSize.f (l.length : Int) = some true := by rw [spec_grSize.eq, decide_eq_true (by omega), decide_eq_true (by omega)]; rfl
    have e2 := spec_l1All.ev l 0 (wrap64 ((shl .i64 1 (l.length : Int)) - 1)) h
    rw [whole_eq (by omega) (by omega)] at e2
    rw [show (decide (1 ≤ l.length ∧ l.length ≤ 16)) = true from decide_eq_true hn, Bool.true_and]
    have e3 : (l.all fun x => decide (0 ≤ x) && decide (x ≤ 2 ^ (l.length : Int).toNat - 1)) = l.all (inSet l.length) := by
      congr 1
      funext x
      unfold inSet
      rw [Int.toNat_natCast]
      congr 1
      rw [Bool.eq_iff_iff]
      simp only [decide_eq_true_eq]
      omega
    rw [e3] at e2
    obtain ⟨K, hK⟩ := e2
    by_cases hg : l.all (inSet l.length) = true
    · rw [hg, Bool.true_and]
      have hg' := inSet_all l hg
      obtain ⟨K2, hK2⟩ := spec_grGood.outer l own hn.2 hg' l.length 0 (by omega) (by omega)
      refine ⟨K + K2 + 1, fun k hk => ?_⟩
      obtain ⟨m, rfl⟩ : ∃ m, k = m + 1 := ⟨k - 1, by omega⟩
      have h1 : spec_l1All.f (m + 1) l 0 (2 ^ (l.length : Int).toNat - 1) = _ := hK (m + 1) (by omega)
      have h2 : spec_grGood.l0 m l (l.length : Int) ((0 : Nat) : Int) l own = _ := hK2 m (by omega)
      show spec_grGood.f (m + 1) l own = _
      unfold spec_grGood.f
      rw [e1, Option.bind_some, if_pos rfl, whole_eq (by omega) (by omega), h1, Option.bind_some, hg]
      simp only [spec_grGood.j0, Bool.not_true, Bool.false_eq_true, if_false]
      rw [Nat.sub_zero] at h2
      exact h2
    · replace hg := Bool.eq_false_iff.mpr hg
      rw [hg, Bool.false_and]
      refine ⟨K + 1, fun k hk => ?_⟩
      obtain ⟨m, rfl⟩ : ∃ m, k = m + 1 := ⟨k - 1, by omega⟩
      have h1 : spec_l1All.f (m + 1) l 0 (2 ^ (l.length : Int).toNat - 1) = _ := hK (m + 1) (by omega)
      show spec_grGood.f (m + 1) l own = _
      unfold spec_grGood.f
      rw [e1, Option.bind_some, if_pos rfl, whole_eq (by omega) (by omega), h1, Option.bind_some, hg]
      simp only [spec_grGood.j0, Bool.not_false, if_true]
  · have e1 : spec_grSize.f (l.length : Int) = some false := by
      rw [spec_grSize.eq]
      congr 1
      rw [Bool.and_eq_false_iff, decide_eq_false_iff_not, decide_eq_false_iff_not]
      omega
    rw [show (decide (1 ≤ l.length ∧ l.length ≤ 16)) = false from decide_eq_false hn, Bool.false_and]
    refine now fun k => ?_
    unfold spec_grGood.f
    rw [e1, Option.bind_some, if_neg (by decide)]
    simp only [spec_grGood.j0, if_true]

/-! spec_grSet -/
theorem spec_grSet.ev (l : List Int) (own : Bool) (s : Int) (h : l.length < 4611686018427387904) : Ev (fun k => spec_grSet.f k l own s) (good l && inSet l.length s) := by
  obtain ⟨K, hK⟩ := spec_grGood.ev l own h
  refine ⟨K, fun k hk => ?_⟩
  have h1 : spec_grGood.f k l own = _ := hK k hk
  show spec_grSet.f k l own s = _
  unfold spec_grSet.f
  rw [h1, Option.bind_some]
  cases hg : good l
  · rfl
  · have hG := (good_iff l).1 hg
    have := hG.top
    rw [if_pos rfl, whole_eq (by omega) (by omega), spec_l1In.eq, Option.bind_some, Bool.true_and, inSet_eq]

/-! spec_coGood -/
theorem spec_coGood.ev (l : List Int) (own : Bool) (s : Int) (h : l.length < 4611686018427387904) : Ev (fun k => spec_coGood.f k l own s) (good l && inSet l.length s) :=
  Ev.congr (f := fun k => (spec_grSet.f k l own s).bind fun t => some t) (fun k => rfl) (Ev.bind (spec_grSet.ev l own s h) (Ev.now _))

/-! spec_IsDesk -/
theorem spec_IsDesk.ev (l : List Int) (own : Bool) (s : Int) (h : l.length < 4611686018427387904) : Ev (fun k => spec_IsDesk.f k l own s) (good l && inSet l.length s) :=
  Ev.congr (f := fun k => (spec_coGood.f k l own s).bind fun t => some t) (fun k => rfl) (Ev.bind (spec_coGood.ev l own s h) (Ev.now _))

/-! laws_toIntS -/
theorem laws_toIntS.loop (a : List Int) (h : a.length < 4611686018427387904) (d : Nat) : ∀ (i : Nat) (o : List Int), a.length - i = d → i ≤ a.length → o.length = a.length → o.take i = a.take i → Ev (fun k => laws_toIntS.l0 k a o (i : Int)) a := by
  induction d with
  | zero =>
    intro i o hd hi ho ht
    have e : o = a := by
      have : i = a.length := by omega
      subst this
      rw [List.take_length, List.take_of_length_le (by omega)] at ht
      exact ht
    subst e
    refine now fun k => ?_
    simp only [laws_toIntS.l0]
    rw [if_neg (by omega)]
  | succ d ih =>
    intro i o hd hi ho ht
    have hlt : i < a.length := by omega
    refine Ev.step (f := fun k => laws_toIntS.l0 k a (o.set i a[i]) ((i + 1 : Nat) : Int)) (fun k => ?_) (ih (i + 1) (o.set i a[i]) (by omega) (by omega) (by rw [List.length_set]; exact ho) ?_)
    · simp only [laws_toIntS.l0]
      rw [if_pos (by omega), if_pos (by omega), if_pos (by omega), rd_get a i hlt, wrap_succ i (by omega)]
      rfl
    · rw [List.take_succ_eq_append_getElem (by simp [ho, hlt]), List.take_succ_eq_append_getElem hlt]
      simp [List.take_set_of_le, ht]
theorem laws_toIntS.ev (a : List Int) (h : a.length ≤ 35184372088832) : Ev (fun k => laws_toIntS.f k a) a := by
  refine Ev.congr (f := fun k => laws_toIntS.l0 k a (List.replicate a.length 0) ((0 : Nat) : Int)) (fun k => ?_) (laws_toIntS.loop a (by omega) a.length 0 _ (by omega) (by omega) (by simp) (by simp))
  unfold laws_toIntS.f
  rw [if_pos (by omega), if_pos (by omega)]
  rfl

/-! laws_toGraph -/
theorem laws_toGraph.ev (l : List Int) (b : Bool) (h : l.length ≤ 35184372088832) : Ev (fun k => laws_toGraph.f k l b) (l, b) :=
  Ev.congr (f := fun k => (laws_toIntS.f k l).bind fun t => some (t, b)) (fun k => rfl) (Ev.bind (laws_toIntS.ev l h) (Ev.now _))

/-! laws_toDesk -/
theorem laws_toDesk.ev (l : List Int) (b : Bool) (s : Int) (h : l.length ≤ 35184372088832) : Ev (fun k => laws_toDesk.f k l b s) (l, b, s) :=
  Ev.congr (f := fun k => (laws_toGraph.f k l b).bind fun t => some (t.1, t.2, s)) (fun k => rfl) (Ev.bind (laws_toGraph.ev l b h) (Ev.now _))

/-! impl_in -/
theorem impl_in.eq (x a b : Int) : impl_in.f x a b = some (decide (a ≤ x) && decide (x ≤ b)) := by
  unfold impl_in.f
  by_cases h : a ≤ x
  · rw [if_pos h]; simp [h]
  · rw [if_neg h]; simp [h]

/-! impl_whole -/
theorem impl_whole.eq (n : Int) (h0 : 0 ≤ n) (h1 : n ≤ 62) : impl_whole.f n = some (2 ^ n.toNat - 1) := by unfold impl_whole.f; rw [if_pos h0, whole_eq h0 h1]

/-! impl_has -/
theorem impl_has.eq (x i : Int) (hx : 0 ≤ x) (hx1 : x < 2 ^ 63) (hi : 0 ≤ i) : impl_has.f x i = some (bit x i) := by unfold impl_has.f; rw [if_pos hi, has_bit hx hx1 hi]

/-! impl_isCount -/
theorem impl_isCount.eq (x : Int) : impl_isCount.f x = some (decide (1 ≤ x) && decide (x ≤ 16)) := by unfold impl_isCount.f; rw [impl_in.eq]; rfl

/-! impl_isGraph -/
theorem impl_isGraph.inner (l : List Int) (own : Bool) (hn : l.length ≤ 16) (i : Nat) (hi : i < l.length) (hbi : 0 ≤ l[i] ∧ l[i] < 2 ^ 63) (hb : ∀ j, (h : j < i) → 0 ≤ l[j] ∧ l[j] < 2 ^ 63) (r : Bool) (hr : Ev (fun k => impl_isGraph.l0 k (l.length : Int) l (l.length : Int) ((i + 1 : Nat) : Int) l own) r) (d : Nat) :
    ∀ j : Nat, i - j = d → j ≤ i → Ev (fun k => impl_isGraph.l1 k (l.length : Int) (i : Int) l[i] l (l.length : Int) (i : Int) (i : Int) (j : Int) l own) (((List.range' j (i - j)).all fun j => bit (l.getD i 0) (j : Int) == bit (l.getD j 0) (i : Int)) && r) := by
  induction d with
  | zero =>
    intro j hd hj
    refine Ev.step (f := fun k => impl_isGraph.l0 k (l.length : Int) l (l.length : Int) ((i + 1 : Nat) : Int) l own) (fun k => ?_) (by rw [hd]; simpa using hr)
    simp only [impl_isGraph.l1]
    rw [if_neg (by omega), wrap_succ i (by omega)]
  | succ d ih =>
    intro j hd hj
    have hlt : j < i := by omega
    have hbj := hb j hlt
    rw [hd, List.range'_succ, List.all_cons, Bool.and_assoc]
    have ih' := ih (j + 1) (by omega) (by omega)
    rw [show i - (j + 1) = d by omega] at ih'
    have h1 := impl_has.eq l[i] (j : Int) hbi.1 hbi.2 (by omega)
    have h2 := impl_has.eq l[j] (i : Int) hbj.1 hbj.2 (by omega)
    rw [getD_get l i hi, getD_get l j (by omega)]
    rw [getD_get l i hi] at ih'
    have step : ∀ k, impl_isGraph.l1 (k + 1) (l.length : Int) (i : Int) l[i] l (l.length : Int) (i : Int) (i : Int) (j : Int) l own = if (bit l[i] (j : Int) == bit l[j] (i : Int)) = true then impl_isGraph.l1 k (l.length : Int) (i : Int) l[i] l (l.length : Int) (i : Int) (i : Int) ((j + 1 : Nat) : Int) l own else some false := by
      intro k
      simp only [impl_isGraph.l1]
      rw [if_pos (by omega), h1, Option.bind_some, if_pos (by omega), if_pos (by omega), rd_get l j (by omega), h2, Option.bind_some, wrap_succ j (by omega)]
      cases bit l[i] (j : Int) <;> cases bit l[j] (i : Int) <;> rfl
    cases e : (bit l[i] (j : Int) == bit l[j] (i : Int))
    · rw [Bool.false_and]
      exact now fun k => by rw [step k, e]; rfl
    · rw [Bool.true_and]
      exact Ev.step (fun k => by rw [step k, e]; rfl) ih'
theorem impl_isGraph.outer (l : List Int) (own : Bool) (hn : l.length ≤ 16) (d : Nat) :
    ∀ i : Nat, l.length - i = d → i ≤ l.length → (∀ j, (h : j < i) → (hj : j < l.length) → 0 ≤ l[j] ∧ l[j] < 2 ^ l.length) → Ev (fun k => impl_isGraph.l0 k (l.length : Int) l (l.length : Int) (i : Int) l own) ((List.range' i (l.length - i)).all (okRow l)) := by
  induction d with
  | zero =>
    intro i hd hi _
    refine now fun k => ?_
    simp only [impl_isGraph.l0]
    rw [if_neg (by omega), hd]
    rfl
  | succ d ih =>
    intro i hd hi hb
    have hlt : i < l.length := by omega
    have h16 := pow16 hn
    rw [hd, List.range'_succ, List.all_cons]
    have hr : okRow l i = (inSet l.length l[i] && (!(bit l[i] (i : Int)) && (List.range' 0 i).all fun j => bit (l.getD i 0) (j : Int) == bit (l.getD j 0) (i : Int))) := by
      unfold okRow
      rw [getD_get l i hlt]
    have hin : impl_in.f l[i] 0 (2 ^ (l.length : Int).toNat - 1) = some (inSet l.length l[i]) := by
      rw [impl_in.eq, Int.toNat_natCast]
      unfold inSet
      congr 2
      rw [Bool.eq_iff_iff]
      simp only [decide_eq_true_eq]
      omega
    rw [hr]
    cases e1 : inSet l.length l[i]
    · rw [Bool.false_and, Bool.false_and]
      refine ⟨2, fun k hk => ?_⟩
      obtain ⟨m, rfl⟩ : ∃ m, k = m + 2 := ⟨k - 2, by omega⟩
      show impl_isGraph.l0 (m + 2) (l.length : Int) l (l.length : Int) (i : Int) l own = _
      simp only [impl_isGraph.l0]
      rw [if_pos (by omega), if_pos (by omega), if_pos (by omega), rd_get l i hlt, impl_whole.eq _ (by omega) (by omega), Option.bind_some, hin, Option.bind_some, e1, if_neg (by decide)]
      simp only [impl_isGraph.j1, if_true]
    · have hbi : 0 ≤ l[i] ∧ l[i] < 2 ^ l.length := by simpa [inSet] using e1
      have hbi' : 0 ≤ l[i] ∧ l[i] < 2 ^ 63 := by omega
      rw [Bool.true_and]
      have head : ∀ k, impl_isGraph.l0 (k + 2) (l.length : Int) l (l.length : Int) (i : Int) l own = if bit l[i] (i : Int) = true then some false else impl_isGraph.l1 k (l.length : Int) (i : Int) l[i] l (l.length : Int) (i : Int) (i : Int) ((0 : Nat) : Int) l own := by
        intro k
        simp only [impl_isGraph.l0]
        rw [if_pos (by omega), if_pos (by omega), if_pos (by omega), rd_get l i hlt, impl_whole.eq _ (by omega) (by omega), Option.bind_some, hin, Option.bind_some, e1, if_pos rfl, impl_has.eq l[i] (i : Int) hbi'.1 hbi'.2 (by omega), Option.bind_some]
        simp only [impl_isGraph.j1]
        rfl
      cases e2 : bit l[i] (i : Int)
      · rw [Bool.not_false, Bool.true_and]
        have ih' := ih (i + 1) (by omega) (by omega) (fun j h hj => by
          rcases Nat.lt_succ_iff_lt_or_eq.1 h with h | h
          · exact hb j h hj
          · subst h; exact hbi)
        rw [show l.length - (i + 1) = d by omega] at ih'
        obtain ⟨K, hK⟩ := impl_isGraph.inner l own hn i hlt hbi' (fun j h => by have := hb j h (by omega); omega) _ ih' i 0 (by omega) (by omega)
        rw [Nat.sub_zero] at hK
        refine ⟨K + 2, fun k hk => ?_⟩
        obtain ⟨m, rfl⟩ : ∃ m, k = m + 2 := ⟨k - 2, by omega⟩
        show impl_isGraph.l0 (m + 2) (l.length : Int) l (l.length : Int) (i : Int) l own = _
        rw [head m, e2, if_neg (by decide)]
        exact hK m (by omega)
      · rw [Bool.not_true, Bool.false_and, Bool.false_and]
        refine ⟨2, fun k hk => ?_⟩
        obtain ⟨m, rfl⟩ : ∃ m, k = m + 2 := ⟨k - 2, by omega⟩
        show impl_isGraph.l0 (m + 2) (l.length : Int) l (l.length : Int) (i : Int) l own = _
        rw [head m, e2, if_pos rfl]
theorem impl_isGraph.ev (l : List Int) (own : Bool) : Ev (fun k => impl_isGraph.f k l own) (good l) := by
  rw [good_rows]
  by_cases hn : 1 ≤ l.length ∧ l.length ≤ 16
  · have e1 : impl_isCount.f (l.length : Int) = some true := by rw [impl_isCount.eq, decide_eq_true (by omega), decide_eq_true (by omega)]; rfl
    rw [show (decide (1 ≤ l.length ∧ l.length ≤ 16)) = true from decide_eq_true hn, Bool.true_and]
    refine Ev.congr (f := fun k => impl_isGraph.l0 k (l.length : Int) l (l.length : Int) ((0 : Nat) : Int) l own) (fun k => ?_) (by simpa using impl_isGraph.outer l own hn.2 l.length 0 (by omega) (by omega) (fun j h => absurd h (by omega)))
    unfold impl_isGraph.f
    rw [e1, Option.bind_some, if_pos rfl]
    rfl
  · have e1 : impl_isCount.f (l.length : Int) = some false := by
      rw [impl_isCount.eq]
      congr 1
      rw [Bool.and_eq_false_iff, decide_eq_false_iff_not, decide_eq_false_iff_not]
      omega
    rw [show (decide (1 ≤ l.length ∧ l.length ≤ 16)) = false from decide_eq_false hn, Bool.false_and]
    refine always fun k => ?_
    unfold impl_isGraph.f
    rw [e1, Option.bind_some, if_neg (by decide)]

/-! impl_isSet -/
theorem impl_isSet.p_eq (n : Nat) (h : n ≤ 16) (s : Int) : impl_isSet.p n s = !(inSet n s) := by
  unfold impl_isSet.p
  rw [whole_eq (by omega) (by omega), impl_in.eq, Int.toNat_natCast, ← inSet_eq' n s]
  rfl
theorem impl_isSet.ev (l : List Int) (own : Bool) (ss : List Int) : Ev (fun k => impl_isSet.f k l own ss) (good l && ss.all (inSet l.length)) := by
  obtain ⟨K, hK⟩ := impl_isGraph.ev l own
  refine ⟨K, fun k hk => ?_⟩
  have h1 : impl_isGraph.f k l own = _ := hK k hk
  show impl_isSet.f k l own ss = _
  unfold impl_isSet.f
  rw [h1, Option.bind_some]
  cases hg : good l
  · rfl
  · have := ((good_iff l).1 hg).top
    rw [if_pos rfl, Bool.true_and, show impl_isSet.p l.length = (fun s => !(inSet l.length s)) from funext (impl_isSet.p_eq l.length this), List.not_any_eq_all_not]
    simp

/-! impl_isDesk -/
theorem impl_isDesk.ev (l : List Int) (own : Bool) (s : Int) : Ev (fun k => impl_isDesk.f k l own s) (good l && inSet l.length s) := by
  have h := impl_isSet.ev l own [s]
  rw [show [s].all (inSet l.length) = inSet l.length s by simp] at h
  exact Ev.congr (f := fun k => (impl_isSet.f k l own [s]).bind fun t => some t) (fun k => rfl) (Ev.bind h (Ev.now _))

/-! impl_IsDesk -/
theorem impl_IsDesk.ev (l : List Int) (own : Bool) (s : Int) : Ev (fun k => impl_IsDesk.f k l own s) (good l && inSet l.length s) :=
  Ev.congr (f := fun k => (impl_isDesk.f k l own s).bind fun t => some t) (fun k => rfl) (Ev.bind (impl_isDesk.ev l own s) (Ev.now _))
end Go.Proofs.Ytijccendobcndaa.Pure
