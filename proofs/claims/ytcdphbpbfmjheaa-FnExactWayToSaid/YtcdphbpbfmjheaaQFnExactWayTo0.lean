/- What the functions of FnExactWayTo compute, in plain words. -/
import Derived.Test.YtcdphbpbfmjheaaPFnExactWayTox9
import Derived.Test.YtcdphbpbfmjheaaM1
import Derived.Test.YtcdphbpbfmjheaaM2
import Derived.Test.YtcdphbpbfmjheaaM3
import Derived.Test.YtcdphbpbfmjheaaM4
import Derived.Test.YtcdphbpbfmjheaaM6
import Derived.Test.YtcdphbpbfmjheaaM7
import Derived.Test.YtcdphbpbfmjheaaM9
import Derived.Test.YtcdphbpbfmjheaaM12
import Derived.Test.YtcdphbpbfmjheaaM14
namespace Go.Proofs.Ytcdphbpbfmjheaa.Pure
open Go.RowKit Go.Proofs.Ytcdphbpbfmjheaa.PFnExactWayTo Go.Proofs.YtcdphbpbfmjheaaW.PrintWords Go.Proofs.YtcdphbpbfmjheaaW.PrintLast Go.Proofs.YtcdphbpbfmjheaaW.PrintMore Go.Proofs.YtcdphbpbfmjheaaM
set_option linter.unusedVariables false
set_option linter.unusedSimpArgs false
/-! laws_szIntS -/
theorem laws_szIntS.eq (l : List Int) (n : Int) (h0 : 0 ≤ n) (h1 : n ≤ 1048576) (h : l.length ≤ 35184372088832) : laws_szIntS.f l n = some (if n < l.length then -1 else n - l.length) := by
  unfold laws_szIntS.f
  rw [wrap_id (by omega) (by omega)]
  by_cases e : n < l.length
  · rw [if_pos (by omega), if_pos e]
  · rw [if_neg (by omega), if_neg e]

/-! laws_szGraph -/
theorem laws_szGraph.eq (l : List Int) (b : Bool) (n : Int) (h0 : 0 ≤ n) (h1 : n ≤ 1048576) (h : l.length ≤ 35184372088832) : laws_szGraph.f l b n = some (if n < l.length then -1 else n - l.length) := by
  unfold laws_szGraph.f
  rw [laws_szIntS.eq l n h0 h1 h]
  by_cases e : n < l.length
  · simp [e]
  · have : ¬ (n - l.length < 0) := by omega
    simp [e]
    omega

/-! laws_toIntS -/
theorem laws_toIntS.loop (a : List Int) (h : a.length < 4611686018427387904) (d : Nat) : ∀ (i : Nat) (o : List Int), a.length - i = d → i ≤ a.length → o.length = a.length → o.take i = a.take i → Ev (fun k => laws_toIntS.l0 k a o (i : Int)) a := by
  induction d with
  | zero =>
    intro i o hd hi ho ht
    have e : o = a := by
      have : i = a.length := by omega
      subst this
      rw [List.take_length, List.take_of_length_le (by omega)] at ht
      exact ht
    subst e
    refine now fun k => ?_
    simp only [laws_toIntS.l0]
    rw [if_neg (by omega)]
  | succ d ih =>
    intro i o hd hi ho ht
    have hlt : i < a.length := by omega
    refine Ev.step (f := fun k => laws_toIntS.l0 k a (o.set i a[i]) ((i + 1 : Nat) : Int)) (fun k => ?_) (ih (i + 1) (o.set i a[i]) (by omega) (by omega) (by rw [List.length_set]; exact ho) ?_)
    · simp only [laws_toIntS.l0]
      rw [if_pos (by omega), if_pos (by omega), if_pos (by omega), rd_get a i hlt, wrap_succ i (by omega)]
      rfl
    · rw [List.take_succ_eq_append_getElem (by simp [ho, hlt]), List.take_succ_eq_append_getElem hlt]
      simp [List.take_set_of_le, ht]
theorem laws_toIntS.ev (a : List Int) (h : a.length ≤ 35184372088832) : Ev (fun k => laws_toIntS.f k a) a := by
  refine Ev.congr (f := fun k => laws_toIntS.l0 k a (List.replicate a.length 0) ((0 : Nat) : Int)) (fun k => ?_) (laws_toIntS.loop a (by omega) a.length 0 _ (by omega) (by omega) (by simp) (by simp))
  unfold laws_toIntS.f
  rw [if_pos (by omega), if_pos (by omega)]
  rfl

/-! laws_toGraph -/
theorem laws_toGraph.ev (l : List Int) (b : Bool) (h : l.length ≤ 35184372088832) : Ev (fun k => laws_toGraph.f k l b) (l, b) :=
  Ev.congr (f := fun k => (laws_toIntS.f k l).bind fun t => some (t, b)) (fun k => rfl) (Ev.bind (laws_toIntS.ev l h) (Ev.now _))

/-! laws_eqIntS -/
theorem laws_eqIntS.loop (a b : List Int) (hl : a.length = b.length) (h : a.length < 4611686018427387904) (d : Nat) : ∀ i : Nat, a.length - i = d → i ≤ a.length → Ev (fun k => laws_eqIntS.l0 k a b (i : Int)) (decide (a.drop i = b.drop i)) := by
  induction d with
  | zero =>
    intro i hd hi
    refine now fun k => ?_
    simp only [laws_eqIntS.l0]
    rw [if_neg (by omega), List.drop_eq_nil_of_le (by omega), List.drop_eq_nil_of_le (by omega)]
    rfl
  | succ d ih =>
    intro i hd hi
    have hlt : i < a.length := by omega
    have hltb : i < b.length := by omega
    rw [drop_cons a i hlt, drop_cons b i hltb]
    by_cases e : a[i] = b[i]
    · have := ih (i + 1) (by omega) (by omega)
      refine Ev.step (f := fun k => laws_eqIntS.l0 k a b ((i + 1 : Nat) : Int)) (fun k => ?_) (by rw [show decide (a[i] :: a.drop (i + 1) = b[i] :: b.drop (i + 1)) = decide (a.drop (i + 1) = b.drop (i + 1)) by simp only [List.cons.injEq, e, true_and]]; exact this)
      simp only [laws_eqIntS.l0]
      rw [if_pos (by omega), if_pos (by omega), if_pos (by omega), rd_get a i hlt, rd_get b i hltb, if_pos e, wrap_succ i (by omega)]
    · refine now fun k => ?_
      simp only [laws_eqIntS.l0]
      rw [if_pos (by omega), if_pos (by omega), if_pos (by omega), rd_get a i hlt, rd_get b i hltb, if_neg e, show decide (a[i] :: a.drop (i + 1) = b[i] :: b.drop (i + 1)) = false by simp only [List.cons.injEq, e, false_and, decide_false]]
theorem laws_eqIntS.ev (a b : List Int) (h : a.length < 4611686018427387904) : Ev (fun k => laws_eqIntS.f k a b) (decide (a = b)) := by
  by_cases hl : a.length = b.length
  · have := laws_eqIntS.loop a b hl h a.length 0 (by omega) (by omega)
    refine Ev.congr (f := fun k => laws_eqIntS.l0 k a b ((0 : Nat) : Int)) (fun k => ?_) (by simpa using this)
    unfold laws_eqIntS.f
    rw [if_pos (by omega)]
    rfl
  · refine always fun k => ?_
    unfold laws_eqIntS.f
    rw [if_neg (by omega)]
    have : ¬ a = b := fun e => hl (by rw [e])
    simp [this]

/-! laws_eqGraph -/
theorem laws_eqGraph.ev (a : List Int) (x : Bool) (b : List Int) (y : Bool) (h : a.length < 4611686018427387904) : Ev (fun k => laws_eqGraph.f k a x b y) (decide (a = b) && (x == y)) := by
  obtain ⟨K, hK⟩ := laws_eqIntS.ev a b h
  refine ⟨K, fun k hk => ?_⟩
  have h1 : laws_eqIntS.f k a b = _ := hK k hk
  simp only [laws_eqGraph.f, h1, Option.bind_some]
  cases x <;> cases y <;> by_cases e : a = b <;> simp [e]

/-! spec_l1In -/
theorem spec_l1In.eq (x a b : Int) : spec_l1In.f x a b = some (decide (a ≤ x) && decide (x ≤ b)) := by
  unfold spec_l1In.f
  by_cases h : a ≤ x
  · rw [if_pos (by omega)]; simp [h]
  · rw [if_neg (by omega)]; simp [h]

/-! spec_grIn -/
theorem spec_grIn.eq (x i : Int) (hx : 0 ≤ x) (hx1 : x < 2 ^ 63) (hi : 0 ≤ i) : spec_grIn.f x i = some (bit x i) := by unfold spec_grIn.f; rw [if_pos hi, in_bit hx hx1 hi]

/-! spec_l1All -/
theorem spec_l1All.loop (l : List Int) (a b : Int) (h : l.length < 4611686018427387904) (d : Nat) : ∀ i : Nat, l.length - i = d → i ≤ l.length → Ev (fun k => spec_l1All.l0 k a b l (l.length : Int) (i : Int)) ((l.drop i).all fun x => decide (a ≤ x) && decide (x ≤ b)) := by
  induction d with
  | zero =>
    intro i hd hi
    refine now fun k => ?_
    simp only [spec_l1All.l0]
    rw [if_neg (by omega), List.drop_eq_nil_of_le (by omega)]
    rfl
  | succ d ih =>
    intro i hd hi
    have hlt : i < l.length := by omega
    rw [drop_cons l i hlt, List.all_cons]
    by_cases e : (decide (a ≤ l[i]) && decide (l[i] ≤ b)) = true
    · refine Ev.step (f := fun k => spec_l1All.l0 k a b l (l.length : Int) ((i + 1 : Nat) : Int)) (fun k => ?_) (by rw [e, Bool.true_and]; exact ih (i + 1) (by omega) (by omega))
      simp only [spec_l1All.l0]
      rw [if_pos (by omega), if_pos (by omega), if_pos (by omega), rd_get l i hlt, spec_l1In.eq, e, wrap_succ i (by omega)]
      rfl
    · refine now fun k => ?_
      simp only [spec_l1All.l0]
      replace e := Bool.eq_false_iff.mpr e
      rw [if_pos (by omega), if_pos (by omega), if_pos (by omega), rd_get l i hlt, spec_l1In.eq, e]
      rfl
theorem spec_l1All.ev (l : List Int) (a b : Int) (h : l.length < 4611686018427387904) : Ev (fun k => spec_l1All.f k l a b) (l.all fun x => decide (a ≤ x) && decide (x ≤ b)) :=
  spec_l1All.loop l a b h l.length 0 (by omega) (by omega)

/-! spec_grSize -/
theorem spec_grSize.eq (x : Int) : spec_grSize.f x = some (decide (1 ≤ x) && decide (x ≤ 16)) := by unfold spec_grSize.f; rw [spec_l1In.eq]; rfl

/-! spec_grGood -/
theorem spec_grGood.inner (l : List Int) (own : Bool) (hn : l.length ≤ 16) (hg : ∀ x ∈ l, 0 ≤ x ∧ x < 2 ^ l.length) (i : Nat) (hi : i < l.length) (r : Bool) (hr : Ev (fun k => spec_grGood.l0 k l (l.length : Int) ((i + 1 : Nat) : Int) l own) r) (d : Nat) :
    ∀ j : Nat, l.length - j = d → j ≤ l.length → Ev (fun k => spec_grGood.l1 k (i : Int) l[i] l (l.length : Int) (i : Int) (l.length : Int) (j : Int) l own) (((List.range' j (l.length - j)).all fun j => okPair l i j) && r) := by
  induction d with
  | zero =>
    intro j hd hj
    refine Ev.step (f := fun k => spec_grGood.l0 k l (l.length : Int) ((i + 1 : Nat) : Int) l own) (fun k => ?_) (by rw [hd]; simpa using hr)
    simp only [spec_grGood.l1]
    rw [if_neg (by omega), wrap_succ i (by omega)]
  | succ d ih =>
    intro j hd hj
    have hlt : j < l.length := by omega
    have hbi := set_bounds l hn hg i hi
    have hbj := set_bounds l hn hg j hlt
    rw [hd, List.range'_succ, List.all_cons, Bool.and_assoc]
    have ih' := ih (j + 1) (by omega) (by omega)
    rw [show l.length - (j + 1) = d by omega] at ih'
    have hb := spec_grIn.eq l[i] (j : Int) hbi.1 hbi.2 (by omega)
    have hb2 := spec_grIn.eq l[j] (i : Int) hbj.1 hbj.2 (by omega)
    have step : ∀ k, spec_grGood.l1 (k + 1) (i : Int) l[i] l (l.length : Int) (i : Int) (l.length : Int) (j : Int) l own = if okPair l i j = true then spec_grGood.l1 k (i : Int) l[i] l (l.length : Int) (i : Int) (l.length : Int) ((j + 1 : Nat) : Int) l own else some false := by
      intro k
      simp only [spec_grGood.l1]
      rw [if_pos (by omega), hb, Option.bind_some, okPair_eq l i j hi hlt]
      cases e1 : bit l[i] (j : Int)
      · simp only [Bool.false_eq_true, if_false, Bool.not_false, Bool.true_or, if_true]
        rw [wrap_succ j (by omega)]
      · simp only [if_true, Bool.not_true, Bool.false_or]
        by_cases e2 : i = j
        · subst e2
          simp
        · rw [if_neg (by omega), if_pos (by omega), if_pos (by omega), rd_get l j hlt, hb2, Option.bind_some, wrap_succ j (by omega)]
          simp [e2]
    cases e : okPair l i j
    · rw [Bool.false_and]
      exact now fun k => by rw [step k, e]; rfl
    · rw [Bool.true_and]
      exact Ev.step (fun k => by rw [step k, e]; rfl) ih'
theorem spec_grGood.outer (l : List Int) (own : Bool) (hn : l.length ≤ 16) (hg : ∀ x ∈ l, 0 ≤ x ∧ x < 2 ^ l.length) (d : Nat) :
    ∀ i : Nat, l.length - i = d → i ≤ l.length → Ev (fun k => spec_grGood.l0 k l (l.length : Int) (i : Int) l own) ((List.range' i (l.length - i)).all fun i => (List.range' 0 l.length).all fun j => okPair l i j) := by
  induction d with
  | zero =>
    intro i hd hi
    refine now fun k => ?_
    simp only [spec_grGood.l0]
    rw [if_neg (by omega), hd]
    rfl
  | succ d ih =>
    intro i hd hi
    have hlt : i < l.length := by omega
    rw [hd, List.range'_succ, List.all_cons]
    have ih' := ih (i + 1) (by omega) (by omega)
    rw [show l.length - (i + 1) = d by omega] at ih'
    refine Ev.step (f := fun k => spec_grGood.l1 k (i : Int) l[i] l (l.length : Int) (i : Int) (l.length : Int) ((0 : Nat) : Int) l own) (fun k => ?_) (spec_grGood.inner l own hn hg i hlt _ ih' l.length 0 (by omega) (by omega))
    simp only [spec_grGood.l0]
    rw [if_pos (by omega), if_pos (by omega), if_pos (by omega), rd_get l i hlt]
    rfl
theorem spec_grGood.ev (l : List Int) (own : Bool) (h : l.length < 4611686018427387904) : Ev (fun k => spec_grGood.f k l own) (good l) := by
  rw [good_eq]
  by_cases hn : 1 ≤ l.length ∧ l.length ≤ 16
  · have e1 : spec_grSize.f (l.length : Int) = some true := by rw [spec_grSize.eq, decide_eq_true (by omega), decide_eq_true (by omega)]; rfl
    have e2 := spec_l1All.ev l 0 (wrap64 ((shl .i64 1 (l.length : Int)) - 1)) h
    rw [whole_eq (by omega) (by omega)] at e2
    rw [show (decide (1 ≤ l.length ∧ l.length ≤ 16)) = true from decide_eq_true hn, Bool.true_and]
    have e3 : (l.all fun x => decide (0 ≤ x) && decide (x ≤ 2 ^ (l.length : Int).toNat - 1)) = l.all (inSet l.length) := by
      congr 1
      funext x
      unfold inSet
      rw [Int.toNat_natCast]
      congr 1
      rw [Bool.eq_iff_iff]
      simp only [decide_eq_true_eq]
      omega
    rw [e3] at e2
    obtain ⟨K, hK⟩ := e2
    by_cases hg : l.all (inSet l.length) = true
    · rw [hg, Bool.true_and]
      have hg' := inSet_all l hg
      obtain ⟨K2, hK2⟩ := spec_grGood.outer l own hn.2 hg' l.length 0 (by omega) (by omega)
      refine ⟨K + K2 + 1, fun k hk => ?_⟩
      obtain ⟨m, rfl⟩ : ∃ m, k = m + 1 := ⟨k - 1, by omega⟩
      have h1 : spec_l1All.f (m + 1) l 0 (2 ^ (l.length : Int).toNat - 1) = _ := hK (m + 1) (by omega)
      have h2 : spec_grGood.l0 m l (l.length : Int) ((0 : Nat) : Int) l own = _ := hK2 m (by omega)
      show spec_grGood.f (m + 1) l own = _
      unfold spec_grGood.f
      rw [e1, Option.bind_some, if_pos rfl, whole_eq (by omega) (by omega), h1, Option.bind_some, hg]
      simp only [spec_grGood.j0, Bool.not_true, Bool.false_eq_true, if_false]
      rw [Nat.sub_zero] at h2
      exact h2
    · replace hg := Bool.eq_false_iff.mpr hg
      rw [hg, Bool.false_and]
      refine ⟨K + 1, fun k hk => ?_⟩
      obtain ⟨m, rfl⟩ : ∃ m, k = m + 1 := ⟨k - 1, by omega⟩
      have h1 : spec_l1All.f (m + 1) l 0 (2 ^ (l.length : Int).toNat - 1) = _ := hK (m + 1) (by omega)
      show spec_grGood.f (m + 1) l own = _
      unfold spec_grGood.f
      rw [e1, Option.bind_some, if_pos rfl, whole_eq (by omega) (by omega), h1, Option.bind_some, hg]
      simp only [spec_grGood.j0, Bool.not_false, if_true]
  · have e1 : spec_grSize.f (l.length : Int) = some false := by
      rw [spec_grSize.eq]
      congr 1
      rw [Bool.and_eq_false_iff, decide_eq_false_iff_not, decide_eq_false_iff_not]
      omega
    rw [show (decide (1 ≤ l.length ∧ l.length ≤ 16)) = false from decide_eq_false hn, Bool.false_and]
    refine now fun k => ?_
    unfold spec_grGood.f
    rw [e1, Option.bind_some, if_neg (by decide)]
    simp only [spec_grGood.j0, if_true]

/-! spec_grSet -/
theorem spec_grSet.ev (l : List Int) (own : Bool) (s : Int) (h : l.length < 4611686018427387904) : Ev (fun k => spec_grSet.f k l own s) (good l && inSet l.length s) := by
  obtain ⟨K, hK⟩ := spec_grGood.ev l own h
  refine ⟨K, fun k hk => ?_⟩
  have h1 : spec_grGood.f k l own = _ := hK k hk
  show spec_grSet.f k l own s = _
  unfold spec_grSet.f
  rw [h1, Option.bind_some]
  cases hg : good l
  · rfl
  · have hG := (good_iff l).1 hg
    have := hG.top
    rw [if_pos rfl, whole_eq (by omega) (by omega), spec_l1In.eq, Option.bind_some, Bool.true_and, inSet_eq]

/-! spec_liGood -/
theorem spec_liGood.ev (l : List Int) (own : Bool) (h : l.length < 4611686018427387904) : Ev (fun k => spec_liGood.f k l own) (good l && decide (l.length ≤ 9)) := by
  obtain ⟨K, hK⟩ := spec_grGood.ev l own h
  refine ⟨K, fun k hk => ?_⟩
  have h1 : spec_grGood.f k l own = _ := hK k hk
  show spec_liGood.f k l own = _
  unfold spec_liGood.f
  rw [h1, Option.bind_some]
  cases good l
  · rfl
  · rw [if_pos rfl, Bool.true_and]
    congr 1
    rw [Bool.eq_iff_iff]
    simp only [decide_eq_true_eq]
    omega

/-! spec_liSet -/
theorem spec_liSet.ev (l : List Int) (own : Bool) (s : Int) (h : l.length < 4611686018427387904) : Ev (fun k => spec_liSet.f k l own s) (good l && decide (l.length ≤ 9) && inSet l.length s) := by
  obtain ⟨K, hK⟩ := ev_and (spec_liGood.ev l own h) (spec_grSet.ev l own s h)
  refine ⟨K, fun k hk => ?_⟩
  obtain ⟨h1, h2⟩ := hK k hk
  show spec_liSet.f k l own s = _
  unfold spec_liSet.f
  rw [h1, Option.bind_some, h2, Option.bind_some]
  cases good l <;> cases decide (l.length ≤ 9) <;> rfl

/-! spec_WayTo -/
theorem spec_WayTo.fill (l : List Int) (own : Bool) (a g : Int) (N : Nat) (hN : N ≤ 512) (R : List Int × Bool) (h : Ev (fun k => spec_WayTo.l0 k a g (List.replicate N (-1)) (N : Int) (N : Int) l own) R) : ∀ d i : Nat, i + d = N → Ev (fun k => spec_WayTo.l0 k a g (List.replicate i (-1) ++ List.replicate d 0) (N : Int) (i : Int) l own) R
  | 0, i, hd => by
    obtain rfl : i = N := by omega
    rw [List.replicate_zero, List.append_nil]
    exact h
  | d + 1, i, hd => by
    have e : (List.replicate i (-1 : Int) ++ List.replicate (d + 1) 0).set i (-1) = List.replicate (i + 1) (-1) ++ List.replicate d 0 := by
      rw [List.set_append_right _ _ (by simp), List.length_replicate, Nat.sub_self, List.replicate_succ, List.set_cons_zero, List.replicate_succ' (n := i), List.append_assoc]
      rfl
    refine Ev.step (f := fun k => spec_WayTo.l0 k a g (List.replicate (i + 1) (-1) ++ List.replicate d 0) (N : Int) ((i + 1 : Nat) : Int) l own) (fun k => ?_) (spec_WayTo.fill l own a g N hN R h d (i + 1) (by omega))
    simp only [spec_WayTo.l0]
    rw [if_pos (by omega), if_pos (by omega), if_pos (by rw [List.length_append, List.length_replicate, List.length_replicate]; omega), Int.toNat_natCast, e, wrap_succ i (by omega)]
theorem spec_WayTo.step (l : List Int) (own : Bool) (hG : GoodG l) (hn : l.length ≤ 9) (a g : Int) (gg : Nat) (m : List (Nat × Nat)) (ho : FarOk (moveOf l false) (2 ^ l.length) l.length gg m) (kk i s v : Nat) (hk : ∃ h : kk < m.length, m[kk] = (s, v)) (hi : i < l.length) (k : Nat) :
    spec_WayTo.l2 (k + 1) a g (farRow (2 ^ l.length) m) (ints (m.map Prod.fst)) (kk : Int) l (l.length : Int) (i : Int) l own = spec_WayTo.l2 k a g (farRow (2 ^ l.length) (meetF m (moveOf l false s i) (v + 1))) (ints ((meetF m (moveOf l false s i) (v + 1)).map Prod.fst)) (kk : Int) l (l.length : Int) ((i + 1 : Nat) : Int) l own := by
  obtain ⟨hk, hs⟩ := hk
  have hp := pow9 hn
  have hc := pow_cast l.length
  have hl := ho.length
  have hf : far m s = some v := by have := far_get ho.ok.apart kk hk; rwa [hs] at this
  have hsN := ho.lt hf
  have hv := ho.small s v hf
  have hx := hG.sets (rd l (i : Int)) (rd_mem l _ (by omega) (by omega))
  have e1 : rd (ints (m.map Prod.fst)) (kk : Int) = (s : Int) := by
    rw [ints_get _ kk (by rw [List.length_map]; exact hk), List.getElem_map, hs]
  have em : moveOf l false s i = if s.testBit i = true then s ^^^ (rd l (i : Int)).toNat else s := rfl
  simp only [spec_WayTo.l2]
  rw [if_pos (by omega), if_pos (by omega), if_pos (by omega), if_pos (by omega), if_pos (by rw [ints_length, List.length_map]; omega), e1, spec_grIn.eq (s : Int) (i : Int) (by omega) (by omega) (by omega), Option.bind_some, show bit (s : Int) (i : Int) = s.testBit i from rfl, wrap_succ i (by omega)]
  cases hb : s.testBit i
  · rw [if_neg (by decide), em, hb, if_neg (by decide)]
    unfold meetF
    rw [hf]
    rfl
  · have ht : s ^^^ (rd l (i : Int)).toNat < 2 ^ l.length := by have := moveOf_lt l hG false s i hsN hi; rwa [em, hb, if_pos rfl] at this
    rw [if_pos rfl, em, hb, if_pos rfl, xor_eq (by omega) (by omega) hx.1 (by omega), Int.toNat_natCast]
    generalize s ^^^ (rd l (i : Int)).toNat = t at ht ⊢
    rw [if_pos (by omega), if_pos (by rw [farRow_length]; omega), farRow_get _ _ _ ht]
    cases q : far m t with
    | some w =>
      have e2 : meetF m t (v + 1) = m := by unfold meetF; rw [q]; rfl
      rw [e2, if_neg (by simp only []; omega)]
    | none =>
      have e2 : meetF m t (v + 1) = m ++ [(t, v + 1)] := by unfold meetF; rw [q, if_neg (by decide)]
      rw [e2, if_pos (by simp only []; omega), if_pos (by omega), if_pos (by rw [farRow_length]; omega), if_pos (by rw [ints_length, List.length_map]; omega), farRow_get _ _ _ hsN, hf, Int.toNat_natCast]
      simp only []
      rw [wrap_succ v (by omega), farRow_set q ht, List.map_append, ints_append]
      rfl
theorem spec_WayTo.inner (l : List Int) (own : Bool) (hG : GoodG l) (hn : l.length ≤ 9) (a g : Int) (gg kk : Nat) (R : List Int × Bool) (s v : Nat) (fin : List (Nat × Nat)) (hfin : Ev (fun k => spec_WayTo.l1 k a g (farRow (2 ^ l.length) fin) (ints (fin.map Prod.fst)) ((kk + 1 : Nat) : Int) l own) R) :
    ∀ (d i : Nat) (m : List (Nat × Nat)), i + d = l.length → FarOk (moveOf l false) (2 ^ l.length) l.length gg m → (∃ h : kk < m.length, m[kk] = (s, v)) → farIn (moveOf l false) s (v + 1) d i m = fin →
      Ev (fun k => spec_WayTo.l2 k a g (farRow (2 ^ l.length) m) (ints (m.map Prod.fst)) (kk : Int) l (l.length : Int) (i : Int) l own) R
  | 0, i, m, hd, ho, hk, hf => by
    obtain ⟨hk, hs⟩ := hk
    have hp := pow9 hn
    have hl := ho.length
    have : m = fin := hf
    subst this
    refine Ev.step (f := fun k => spec_WayTo.l1 k a g (farRow (2 ^ l.length) m) (ints (m.map Prod.fst)) ((kk + 1 : Nat) : Int) l own) (fun k => ?_) hfin
    simp only [spec_WayTo.l2]
    rw [if_neg (by omega), wrap_succ kk (by omega)]
  | d + 1, i, m, hd, ho, hk, hf => by
    have hk2 := hk
    obtain ⟨hkl, hs⟩ := hk2
    have hfs : far m s = some v := by have := far_get ho.ok.apart kk hkl; rwa [hs] at this
    obtain ⟨r, hr⟩ := meetF_list (m := m) (moveOf l false s i) (v + 1)
    refine Ev.step (f := fun k => spec_WayTo.l2 k a g (farRow (2 ^ l.length) (meetF m (moveOf l false s i) (v + 1))) (ints ((meetF m (moveOf l false s i) (v + 1)).map Prod.fst)) (kk : Int) l (l.length : Int) ((i + 1 : Nat) : Int) l own) (fun k => spec_WayTo.step l own hG hn a g gg m ho kk i s v hk (by omega) k)
      (spec_WayTo.inner l own hG hn a g gg kk R s v fin hfin d (i + 1) _ (by omega) (ho.meet (moves_lit l hG) hfs (by omega)) ?_ hf)
    simp only [hr]
    exact ⟨by rw [List.length_append]; omega, by rw [List.getElem_append_left hkl]; exact hs⟩
theorem spec_WayTo.outer (l : List Int) (own : Bool) (hG : GoodG l) (hn : l.length ≤ 9) (a g : Int) (gg : Nat) (R : List Int × Bool) (M : List (Nat × Nat))
    (hR : Ev (fun k => if 0 ≤ a then (if a < ((farRow (2 ^ l.length) M).length : Int) then (if rd (farRow (2 ^ l.length) M) a < 0 then some (([] : List Int), false) else spec_WayTo.l3 k a g (farRow (2 ^ l.length) M) ([] : List Int) l own) else none) else none) R) :
    ∀ (f kk : Nat) (m : List (Nat × Nat)), kk + f = 2 ^ l.length → FarOk (moveOf l false) (2 ^ l.length) l.length gg m → farGo (moveOf l false) l.length f kk m = M → Ev (fun k => spec_WayTo.l1 k a g (farRow (2 ^ l.length) m) (ints (m.map Prod.fst)) (kk : Int) l own) R
  | 0, kk, m, hf, ho, hM => by
    have hl := ho.length
    have : m = M := hM
    subst this
    refine Ev.step (fun k => ?_) hR
    simp only [spec_WayTo.l1]
    rw [if_neg (by rw [ints_length, List.length_map]; omega)]
  | f + 1, kk, m, hf, ho, hM => by
    unfold farGo at hM
    by_cases h : kk < m.length
    · rw [dif_pos h] at hM
      have hg := far_get ho.ok.apart kk h
      have ho2 := farIn_ok (moves_lit l hG) l.length 0 m (by omega) ho hg
      have ih := spec_WayTo.outer l own hG hn a g gg R M hR f (kk + 1) _ (by omega) ho2 hM
      have hi := spec_WayTo.inner l own hG hn a g gg kk R m[kk].1 m[kk].2 _ ih l.length 0 m (by omega) ho ⟨h, rfl⟩ rfl
      refine Ev.step (f := fun k => spec_WayTo.l2 k a g (farRow (2 ^ l.length) m) (ints (m.map Prod.fst)) (kk : Int) l (l.length : Int) ((0 : Nat) : Int) l own) (fun k => ?_) hi
      simp only [spec_WayTo.l1]
      rw [if_pos (by rw [ints_length, List.length_map]; omega)]
      rfl
    · rw [dif_neg h] at hM
      subst hM
      refine Ev.step (fun k => ?_) hR
      simp only [spec_WayTo.l1]
      rw [if_neg (by rw [ints_length, List.length_map]; omega)]
theorem spec_WayTo.seek (l : List Int) (own : Bool) (hG : GoodG l) (hn : l.length ≤ 9) (g : Int) (gg : Nat) (m : List (Nat × Nat)) (ho : FarOk (moveOf l false) (2 ^ l.length) l.length gg m) (R : List Int × Bool) (s v j : Nat) (out : List Nat) (hol : out.length ≤ 600) (hf : far m s = some (v + 1)) (hR : Ev (fun k => spec_WayTo.l3 k (moveOf l false s j : Int) g (farRow (2 ^ l.length) m) (ints (out ++ [j])) l own) R) :
    ∀ (d i : Nat), i + d = l.length → stepTo (moveOf l false) m v s d i = some j → Ev (fun k => spec_WayTo.l4 k (s : Int) g (farRow (2 ^ l.length) m) (ints out) l (l.length : Int) (i : Int) l own) R
  | 0, i, hd, h => by cases h
  | d + 1, i, hd, h => by
    have hp := pow9 hn
    have hc := pow_cast l.length
    have hl := ho.length
    have hsN := ho.lt hf
    have hv := ho.small s _ hf
    have hx := hG.sets (rd l (i : Int)) (rd_mem l _ (by omega) (by omega))
    have em : moveOf l false s i = if s.testBit i = true then s ^^^ (rd l (i : Int)).toNat else s := rfl
    unfold stepTo at h
    have pre : ∀ k, spec_WayTo.l4 (k + 1) (s : Int) g (farRow (2 ^ l.length) m) (ints out) l (l.length : Int) (i : Int) l own = if far m (moveOf l false s i) = some v then spec_WayTo.l3 k (moveOf l false s i : Int) g (farRow (2 ^ l.length) m) (ints (out ++ [i])) l own else spec_WayTo.l4 k (s : Int) g (farRow (2 ^ l.length) m) (ints out) l (l.length : Int) ((i + 1 : Nat) : Int) l own := by
      intro k
      simp only [spec_WayTo.l4]
      rw [if_pos (by omega), if_pos (by omega), if_pos (by omega), spec_grIn.eq (s : Int) (i : Int) (by omega) (by omega) (by omega), Option.bind_some, show bit (s : Int) (i : Int) = s.testBit i from rfl, wrap_succ i (by omega)]
      cases hb : s.testBit i
      · simp only [em, hb, Bool.false_eq_true, if_false]
        rw [if_neg (by rw [hf]; simp)]
      · have ht : s ^^^ (rd l (i : Int)).toNat < 2 ^ l.length := by have := moveOf_lt l hG false s i hsN (by omega); rwa [em, hb, if_pos rfl] at this
        rw [if_pos rfl, em, hb, if_pos rfl, xor_eq (by omega) (by omega) hx.1 (by omega), Int.toNat_natCast]
        generalize s ^^^ (rd l (i : Int)).toNat = t at ht ⊢
        rw [if_pos (by omega), if_pos (by rw [farRow_length]; omega), if_pos (by omega), if_pos (by rw [farRow_length]; omega), farRow_get _ _ _ ht, farRow_get _ _ _ hsN, hf]
        simp only []
        rw [wrap_id (by omega) (by omega)]
        cases q : far m t with
        | none =>
          simp only []
          rw [if_neg (by omega), if_neg (by simp)]
        | some w =>
          simp only []
          by_cases e : w = v
          · subst e
            rw [if_pos (by omega), if_pos rfl, if_pos (by rw [ints_length]; omega), ints_append]
            rfl
          · rw [if_neg (by omega), if_neg (by simpa using e)]
    by_cases e : far m (moveOf l false s i) = some v
    · rw [if_pos e] at h
      obtain rfl : i = j := Option.some.inj h
      exact Ev.step (fun k => by show spec_WayTo.l4 (k + 1) _ _ _ _ _ _ _ _ _ = _; rw [pre k, if_pos e]) hR
    · rw [if_neg e] at h
      exact Ev.step (fun k => by show spec_WayTo.l4 (k + 1) _ _ _ _ _ _ _ _ _ = _; rw [pre k, if_neg e]) (spec_WayTo.seek l own hG hn g gg m ho R s v j out hol hf hR d (i + 1) (by omega) h)
theorem spec_WayTo.way (l : List Int) (own : Bool) (hG : GoodG l) (hn : l.length ≤ 9) (gg : Nat) (m : List (Nat × Nat)) (ho : FarOk (moveOf l false) (2 ^ l.length) l.length gg m) :
    ∀ (v s : Nat) (out : List Nat), far m s = some v → out.length + v ≤ 600 → Ev (fun k => spec_WayTo.l3 k (s : Int) (gg : Int) (farRow (2 ^ l.length) m) (ints out) l own) (ints (wayBack (moveOf l false) m l.length v s out), true)
  | 0, s, out, hf, hol => by
    have e : s = gg := by
      rcases ho.dist s 0 hf with ⟨_, h⟩ | ⟨u, h, _⟩
      · exact h
      · omega
    refine now fun k => ?_
    simp only [spec_WayTo.l3]
    rw [if_pos (by rw [e])]
    rfl
  | v + 1, s, out, hf, hol => by
    obtain ⟨j, h1, h2, h3⟩ := ho.stepTo hf
    have e : s ≠ gg := fun e => by rw [e, ho.goal] at hf; simp at hf
    have ih := spec_WayTo.way l own hG hn gg m ho v (moveOf l false s j) (out ++ [j]) h3 (by rw [List.length_append, List.length_singleton]; omega)
    have e2 : wayBack (moveOf l false) m l.length (v + 1) s out = wayBack (moveOf l false) m l.length v (moveOf l false s j) (out ++ [j]) := by
      show (match stepTo (moveOf l false) m v s l.length 0 with | some j => _ | none => _) = _
      rw [h1]
    rw [e2]
    refine Ev.step (f := fun k => spec_WayTo.l4 k (s : Int) (gg : Int) (farRow (2 ^ l.length) m) (ints out) l (l.length : Int) ((0 : Nat) : Int) l own) (fun k => ?_) (spec_WayTo.seek l own hG hn (gg : Int) gg m ho _ s v j out (by omega) hf ih l.length 0 (by omega) h1)
    simp only [spec_WayTo.l3]
    rw [if_neg (by omega)]
    rfl
theorem spec_WayTo.main (l : List Int) (own : Bool) (hG : GoodG l) (hn : l.length ≤ 9) (a g : Nat) (ha : a < 2 ^ l.length) (hg : g < 2 ^ l.length) : Ev (fun k => spec_WayTo.j0 k (a : Int) (g : Int) false l own) (wayOf l a g) := by
  have hp := pow9 hn
  have e0 : shl .i64 1 (l.length : Int) = ((2 ^ l.length : Nat) : Int) := by rw [shl_one (by omega) (by omega), Int.toNat_natCast]
  have hst : FarOk (moveOf l false) (2 ^ l.length) l.length g [(g, 0)] := FarOk.start hg
  have hok := farGo_ok (moves_lit l hG) (2 ^ l.length) 0 [(g, 0)] hst
  have hend : Ev (fun k => if 0 ≤ (a : Int) then (if (a : Int) < ((farRow (2 ^ l.length) (farGo (moveOf l false) l.length (2 ^ l.length) 0 [(g, 0)])).length : Int) then (if rd (farRow (2 ^ l.length) (farGo (moveOf l false) l.length (2 ^ l.length) 0 [(g, 0)])) (a : Int) < 0 then some (([] : List Int), false) else spec_WayTo.l3 k (a : Int) (g : Int) (farRow (2 ^ l.length) (farGo (moveOf l false) l.length (2 ^ l.length) 0 [(g, 0)])) ([] : List Int) l own) else none) else none) (wayOf l a g) := by
    unfold wayOf
    generalize farGo (moveOf l false) l.length (2 ^ l.length) 0 [(g, 0)] = M at hok ⊢
    cases q : far M a with
    | none =>
      refine always fun k => ?_
      rw [if_pos (by omega), if_pos (by rw [farRow_length]; omega), farRow_get _ _ _ ha, q]
      rfl
    | some v =>
      have hv := hok.small a v q
      have hl := hok.length
      obtain ⟨K, hK⟩ := spec_WayTo.way l own hG hn g M hok v a [] q (by simp; omega)
      refine ⟨K, fun k hk => ?_⟩
      show (if 0 ≤ (a : Int) then _ else none) = _
      rw [if_pos (by omega), if_pos (by rw [farRow_length]; omega), farRow_get _ _ _ ha, q]
      simp only []
      rw [if_neg (by omega)]
      exact hK k hk
  have h1 := spec_WayTo.outer l own hG hn (a : Int) (g : Int) g _ _ hend (2 ^ l.length) 0 [(g, 0)] (by omega) hst rfl
  have h2 : Ev (fun k => spec_WayTo.l0 k (a : Int) (g : Int) (List.replicate (2 ^ l.length) (-1)) ((2 ^ l.length : Nat) : Int) ((2 ^ l.length : Nat) : Int) l own) (wayOf l a g) := by
    refine Ev.step (fun k => ?_) h1
    simp only [spec_WayTo.l0]
    have er : (List.replicate (2 ^ l.length) (-1 : Int)).set g 0 = farRow (2 ^ l.length) [(g, 0)] := by
      rw [← farRow_nil]
      exact farRow_set (m := []) (t := g) (e := 0) rfl hg
    rw [if_neg (by omega), if_pos (by omega), if_pos (by rw [List.length_replicate]; omega), Int.toNat_natCast, er]
    rfl
  have h3 := spec_WayTo.fill l own (a : Int) (g : Int) (2 ^ l.length) hp _ h2 (2 ^ l.length) 0 (by omega)
  refine Ev.step (fun k => ?_) h3
  simp only [spec_WayTo.j0]
  rw [if_neg (by decide), e0, if_pos (by omega), if_pos (by rw [Int.toNat_natCast]; omega), Option.bind_some, Int.toNat_natCast, List.length_replicate]
  rfl
theorem spec_WayTo.ev (l : List Int) (own : Bool) (a g : Int) (h : l.length < 4611686018427387904) : Ev (fun k => spec_WayTo.f k l own a g) (if (good l && decide (l.length ≤ 9) && inSet l.length a && inSet l.length g) = true then wayOf l a.toNat g.toNat else ([], false)) := by
  obtain ⟨K, hK⟩ := ev_and (spec_liSet.ev l own a h) (spec_grSet.ev l own g h)
  cases e1 : (good l && decide (l.length ≤ 9) && inSet l.length a)
  · refine ⟨K + 1, fun k hk => ?_⟩
    have h1 : spec_liSet.f k l own a = _ := (hK k (by omega)).1
    obtain ⟨q, rfl⟩ : ∃ q, k = q + 1 := ⟨k - 1, by omega⟩
    show spec_WayTo.f (q + 1) l own a g = _
    unfold spec_WayTo.f
    rw [h1, Option.bind_some, e1]
    rfl
  · have e1' := e1
    simp only [Bool.and_eq_true, decide_eq_true_eq] at e1'
    have hgd : good l = true := e1'.1.1
    cases e2 : inSet l.length g
    · refine ⟨K + 1, fun k hk => ?_⟩
      obtain ⟨h1, h2⟩ := hK k (by omega)
      obtain ⟨q, rfl⟩ : ∃ q, k = q + 1 := ⟨k - 1, by omega⟩
      show spec_WayTo.f (q + 1) l own a g = _
      unfold spec_WayTo.f
      rw [h1, Option.bind_some, e1, if_pos rfl, h2, Option.bind_some, hgd, e2]
      rfl
    · have hG : GoodG l := (good_iff l).1 e1'.1.1
      have ha : 0 ≤ a ∧ a < 2 ^ l.length := by simpa [inSet] using e1'.2
      have hg : 0 ≤ g ∧ g < 2 ^ l.length := by simpa [inSet] using e2
      obtain ⟨a, rfl⟩ := Int.eq_ofNat_of_zero_le ha.1
      obtain ⟨g, rfl⟩ := Int.eq_ofNat_of_zero_le hg.1
      have hc := pow_cast l.length
      obtain ⟨K2, hK2⟩ := spec_WayTo.main l own hG e1'.1.2 a g (by omega) (by omega)
      refine ⟨K + K2, fun k hk => ?_⟩
      obtain ⟨h1, h2⟩ := hK k (by omega)
      have h3 : spec_WayTo.j0 k (a : Int) (g : Int) false l own = _ := hK2 k (by omega)
      show spec_WayTo.f k l own (a : Int) (g : Int) = _
      unfold spec_WayTo.f
      rw [h1, Option.bind_some, e1, if_pos rfl, h2, Option.bind_some, hgd, e2]
      exact h3

/-! impl_in -/
theorem impl_in.eq (x a b : Int) : impl_in.f x a b = some (decide (a ≤ x) && decide (x ≤ b)) := by
  unfold impl_in.f
  by_cases h : a ≤ x
  · rw [if_pos h]; simp [h]
  · rw [if_neg h]; simp [h]

/-! impl_has -/
theorem impl_has.eq (x i : Int) (hx : 0 ≤ x) (hx1 : x < 2 ^ 63) (hi : 0 ≤ i) : impl_has.f x i = some (bit x i) := by unfold impl_has.f; rw [if_pos hi, has_bit hx hx1 hi]

/-! impl_isCount -/
theorem impl_isCount.eq (x : Int) : impl_isCount.f x = some (decide (1 ≤ x) && decide (x ≤ 16)) := by unfold impl_isCount.f; rw [impl_in.eq]; rfl

/-! impl_whole -/
theorem impl_whole.eq (n : Int) (h0 : 0 ≤ n) (h1 : n ≤ 62) : impl_whole.f n = some (2 ^ n.toNat - 1) := by unfold impl_whole.f; rw [if_pos h0, whole_eq h0 h1]

/-! impl_isGraph -/
theorem impl_isGraph.inner (l : List Int) (own : Bool) (hn : l.length ≤ 16) (i : Nat) (hi : i < l.length) (hbi : 0 ≤ l[i] ∧ l[i] < 2 ^ 63) (hb : ∀ j, (h : j < i) → 0 ≤ l[j] ∧ l[j] < 2 ^ 63) (r : Bool) (hr : Ev (fun k => impl_isGraph.l0 k (l.length : Int) l (l.length : Int) ((i + 1 : Nat) : Int) l own) r) (d : Nat) :
    ∀ j : Nat, i - j = d → j ≤ i → Ev (fun k => impl_isGraph.l1 k (l.length : Int) (i : Int) l[i] l (l.length : Int) (i : Int) (i : Int) (j : Int) l own) (((List.range' j (i - j)).all fun j => bit (l.getD i 0) (j : Int) == bit (l.getD j 0) (i : Int)) && r) := by
  induction d with
  | zero =>
    intro j hd hj
    refine Ev.step (f := fun k => impl_isGraph.l0 k (l.length : Int) l (l.length : Int) ((i + 1 : Nat) : Int) l own) (fun k => ?_) (by rw [hd]; simpa using hr)
    simp only [impl_isGraph.l1]
    rw [if_neg (by omega), wrap_succ i (by omega)]
  | succ d ih =>
    intro j hd hj
    have hlt : j < i := by omega
    have hbj := hb j hlt
    rw [hd, List.range'_succ, List.all_cons, Bool.and_assoc]
    have ih' := ih (j + 1) (by omega) (by omega)
    rw [show i - (j + 1) = d by omega] at ih'
    have h1 := impl_has.eq l[i] (j : Int) hbi.1 hbi.2 (by omega)
    have h2 := impl_has.eq l[j] (i : Int) hbj.1 hbj.2 (by omega)
    rw [getD_get l i hi, getD_get l j (by omega)]
    rw [getD_get l i hi] at ih'
    have step : ∀ k, impl_isGraph.l1 (k + 1) (l.length : Int) (i : Int) l[i] l (l.length : Int) (i : Int) (i : Int) (j : Int) l own = if (bit l[i] (j : Int) == bit l[j] (i : Int)) = true then impl_isGraph.l1 k (l.length : Int) (i : Int) l[i] l (l.length : Int) (i : Int) (i : Int) ((j + 1 : Nat) : Int) l own else some false := by
      intro k
      simp only [impl_isGraph.l1]
      rw [if_pos (by omega), h1, Option.bind_some, if_pos (by omega), if_pos (by omega), rd_get l j (by omega), h2, Option.bind_some, wrap_succ j (by omega)]
      cases bit l[i] (j : Int) <;> cases bit l[j] (i : Int) <;> rfl
    cases e : (bit l[i] (j : Int) == bit l[j] (i : Int))
    · rw [Bool.false_and]
      exact now fun k => by rw [step k, e]; rfl
    · rw [Bool.true_and]
      exact Ev.step (fun k => by rw [step k, e]; rfl) ih'
theorem impl_isGraph.outer (l : List Int) (own : Bool) (hn : l.length ≤ 16) (d : Nat) :
    ∀ i : Nat, l.length - i = d → i ≤ l.length → (∀ j, (h : j < i) → (hj : j < l.length) → 0 ≤ l[j] ∧ l[j] < 2 ^ l.length) → Ev (fun k => impl_isGraph.l0 k (l.length : Int) l (l.length : Int) (i : Int) l own) ((List.range' i (l.length - i)).all (okRow l)) := by
  induction d with
  | zero =>
    intro i hd hi _
    refine now fun k => ?_
    simp only [impl_isGraph.l0]
    rw [if_neg (by omega), hd]
    rfl
  | succ d ih =>
    intro i hd hi hb
    have hlt : i < l.length := by omega
    have h16 := pow16 hn
    rw [hd, List.range'_succ, List.all_cons]
    have hr : okRow l i = (inSet l.length l[i] && (!(bit l[i] (i : Int)) && (List.range' 0 i).all fun j => bit (l.getD i 0) (j : Int) == bit (l.getD j 0) (i : Int))) := by
      unfold okRow
      rw [getD_get l i hlt]
    have hin : impl_in.f l[i] 0 (2 ^ (l.length : Int).toNat - 1) = some (inSet l.length l[i]) := by
      rw [impl_in.eq, Int.toNat_natCast]
      unfold inSet
      congr 2
      rw [Bool.eq_iff_iff]
      simp only [decide_eq_true_eq]
      omega
    rw [hr]
    cases e1 : inSet l.length l[i]
    · rw [Bool.false_and, Bool.false_and]
      refine ⟨2, fun k hk => ?_⟩
      obtain ⟨m, rfl⟩ : ∃ m, k = m + 2 := ⟨k - 2, by omega⟩
      show impl_isGraph.l0 (m + 2) (l.length : Int) l (l.length : Int) (i : Int) l own = _
      simp only [impl_isGraph.l0]
      rw [if_pos (by omega), if_pos (by omega), if_pos (by omega), rd_get l i hlt, impl_whole.eq _ (by omega) (by omega), Option.bind_some, hin, Option.bind_some, e1, if_neg (by decide)]
      simp only [impl_isGraph.j1, if_true]
    · have hbi : 0 ≤ l[i] ∧ l[i] < 2 ^ l.length := by simpa [inSet] using e1
      have hbi' : 0 ≤ l[i] ∧ l[i] < 2 ^ 63 := by omega
      rw [Bool.true_and]
      have head : ∀ k, impl_isGraph.l0 (k + 2) (l.length : Int) l (l.length : Int) (i : Int) l own = if bit l[i] (i : Int) = true then some false else impl_isGraph.l1 k (l.length : Int) (i : Int) l[i] l (l.length : Int) (i : Int) (i : Int) ((0 : Nat) : Int) l own := by
        intro k
        simp only [impl_isGraph.l0]
        rw [if_pos (by omega), if_pos (by omega), if_pos (by omega), rd_get l i hlt, impl_whole.eq _ (by omega) (by omega), Option.bind_some, hin, Option.bind_some, e1, if_pos rfl, impl_has.eq l[i] (i : Int) hbi'.1 hbi'.2 (by omega), Option.bind_some]
        simp only [impl_isGraph.j1]
        rfl
      cases e2 : bit l[i] (i : Int)
      · rw [Bool.not_false, Bool.true_and]
        have ih' := ih (i + 1) (by omega) (by omega) (fun j h hj => by
          rcases Nat.lt_succ_iff_lt_or_eq.1 h with h | h
          · exact hb j h hj
          · subst h; exact hbi)
        rw [show l.length - (i + 1) = d by omega] at ih'
        obtain ⟨K, hK⟩ := impl_isGraph.inner l own hn i hlt hbi' (fun j h => by have := hb j h (by omega); omega) _ ih' i 0 (by omega) (by omega)
        rw [Nat.sub_zero] at hK
        refine ⟨K + 2, fun k hk => ?_⟩
        obtain ⟨m, rfl⟩ : ∃ m, k = m + 2 := ⟨k - 2, by omega⟩
        show impl_isGraph.l0 (m + 2) (l.length : Int) l (l.length : Int) (i : Int) l own = _
        rw [head m, e2, if_neg (by decide)]
        exact hK m (by omega)
      · rw [Bool.not_true, Bool.false_and, Bool.false_and]
        refine ⟨2, fun k hk => ?_⟩
        obtain ⟨m, rfl⟩ : ∃ m, k = m + 2 := ⟨k - 2, by omega⟩
        show impl_isGraph.l0 (m + 2) (l.length : Int) l (l.length : Int) (i : Int) l own = _
        rw [head m, e2, if_pos rfl]
theorem impl_isGraph.ev (l : List Int) (own : Bool) : Ev (fun k => impl_isGraph.f k l own) (good l) := by
  rw [good_rows]
  by_cases hn : 1 ≤ l.length ∧ l.length ≤ 16
  · have e1 : impl_isCount.f (l.length : Int) = some true := by rw [impl_isCount.eq, decide_eq_true (by omega), decide_eq_true (by omega)]; rfl
    rw [show (decide (1 ≤ l.length ∧ l.length ≤ 16)) = true from decide_eq_true hn, Bool.true_and]
    refine Ev.congr (f := fun k => impl_isGraph.l0 k (l.length : Int) l (l.length : Int) ((0 : Nat) : Int) l own) (fun k => ?_) (by simpa using impl_isGraph.outer l own hn.2 l.length 0 (by omega) (by omega) (fun j h => absurd h (by omega)))
    unfold impl_isGraph.f
    rw [e1, Option.bind_some, if_pos rfl]
    rfl
  · have e1 : impl_isCount.f (l.length : Int) = some false := by
      rw [impl_isCount.eq]
      congr 1
      rw [Bool.and_eq_false_iff, decide_eq_false_iff_not, decide_eq_false_iff_not]
      omega
    rw [show (decide (1 ≤ l.length ∧ l.length ≤ 16)) = false from decide_eq_false hn, Bool.false_and]
    refine always fun k => ?_
    unfold impl_isGraph.f
    rw [e1, Option.bind_some, if_neg (by decide)]

/-! impl_isSet -/
theorem impl_isSet.p_eq (n : Nat) (h : n ≤ 16) (s : Int) : impl_isSet.p n s = !(inSet n s) := by
  unfold impl_isSet.p
  rw [whole_eq (by omega) (by omega), impl_in.eq, Int.toNat_natCast, ← inSet_eq' n s]
  rfl
theorem impl_isSet.ev (l : List Int) (own : Bool) (ss : List Int) : Ev (fun k => impl_isSet.f k l own ss) (good l && ss.all (inSet l.length)) := by
  obtain ⟨K, hK⟩ := impl_isGraph.ev l own
  refine ⟨K, fun k hk => ?_⟩
  have h1 : impl_isGraph.f k l own = _ := hK k hk
  show impl_isSet.f k l own ss = _
  unfold impl_isSet.f
  rw [h1, Option.bind_some]
  cases hg : good l
  · rfl
  · have := ((good_iff l).1 hg).top
    rw [if_pos rfl, Bool.true_and, show impl_isSet.p l.length = (fun s => !(inSet l.length s)) from funext (impl_isSet.p_eq l.length this), List.not_any_eq_all_not]
    simp

/-! impl_isLit -/
theorem impl_isLit.ev (l : List Int) (own : Bool) (ss : List Int) : Ev (fun k => impl_isLit.f k l own ss) (good l && ss.all (inSet l.length) && decide (l.length ≤ 9)) := by
  obtain ⟨K, hK⟩ := impl_isSet.ev l own ss
  refine ⟨K, fun k hk => ?_⟩
  have h1 : impl_isSet.f k l own ss = _ := hK k hk
  show impl_isLit.f k l own ss = _
  unfold impl_isLit.f
  rw [h1, Option.bind_some]
  cases (good l && ss.all (inSet l.length))
  · rfl
  · rw [if_pos rfl, Bool.true_and]
    congr 1
    rw [Bool.eq_iff_iff]
    simp only [decide_eq_true_eq]
    omega

/-! impl_Graph_litMove -/
theorem impl_Graph_litMove.eq (l : List Int) (own : Bool) (hG : GoodG l) (s i : Nat) (hs : s < 2 ^ l.length) (hi : i < l.length) : impl_Graph_litMove.f l own (s : Int) (i : Int) = some (moveOf l false s i : Int) := by
  have h16 := pow16 hG.top
  have hc := pow_cast l.length
  have hx := hG.sets (rd l (i : Int)) (rd_mem l _ (by omega) (by omega))
  unfold impl_Graph_litMove.f moveOf
  rw [impl_has.eq (s : Int) (i : Int) (by omega) (by omega) (by omega), Option.bind_some, show bit (s : Int) (i : Int) = s.testBit i from rfl]
  split
  · rw [if_pos (by omega), if_pos (by omega), xor_eq (by omega) (by omega) hx.1 (by omega)]
    rfl
  · rfl

/-! impl_WayTo -/
theorem look_pairs : ∀ (m : List (Nat × Nat)) (x : Nat), PFnExactWayTo.look (pairs m) (x : Int) = (far m x).map (fun v : Nat => (v : Int))
  | [], x => rfl
  | (a, b) :: m, x => by
    have ih := look_pairs m x
    rw [far_cons]
    unfold PFnExactWayTo.look at ih ⊢
    show (List.find? (fun p => p.1 == (x : Int)) (((a : Int), (b : Int)) :: pairs m)).map Prod.snd = _
    rw [List.find?_cons]
    by_cases e : a = x
    · subst e
      simp
    · have h : ((a : Int) == (x : Int)) = false := by simp; omega
      rw [if_neg e]
      simp only [h]
      exact ih
theorem pairs_append (m r : List (Nat × Nat)) : pairs (m ++ r) = pairs m ++ pairs r := by unfold pairs; rw [List.map_append]
theorem impl_WayTo.inn_eq (l : List Int) (own : Bool) (hG : GoodG l) (hn : l.length ≤ 9) (gg kk s v : Nat) :
    ∀ (d i : Nat) (m : List (Nat × Nat)), i + d = l.length → kk ≤ m.length → FarOk (moveOf l false) (2 ^ l.length) l.length gg m → far m s = some v →
      impl_WayTo.inn l own (s : Int) d i (ints ((m.map Prod.fst).drop kk)) (pairs m) = some (ints (((farIn (moveOf l false) s (v + 1) d i m).map Prod.fst).drop kk), pairs (farIn (moveOf l false) s (v + 1) d i m))
  | 0, i, m, hd, hk, ho, hf => rfl
  | d + 1, i, m, hd, hk, ho, hf => by
    have hp := pow9 hn
    have hl := ho.length
    have hsN := ho.lt hf
    have hv := ho.small s v hf
    have ht := moveOf_lt l hG false s i hsN (by omega)
    have ih := impl_WayTo.inn_eq l own hG hn gg kk s v d (i + 1) (meetF m (moveOf l false s i) (v + 1)) (by omega) (by
      obtain ⟨r, hr⟩ := meetF_list (m := m) (moveOf l false s i) (v + 1)
      rw [hr, List.length_append]; omega) (ho.meet (moves_lit l hG) hf (by omega)) (meetF_keep hf)
    unfold impl_WayTo.inn farIn
    rw [impl_Graph_litMove.eq l own hG s i hsN (by omega), Option.bind_some, if_pos (wf_small (by omega) (by omega)), look_pairs]
    cases q : far m (moveOf l false s i) with
    | some w =>
      have e2 : meetF m (moveOf l false s i) (v + 1) = m := by unfold meetF; rw [q]; rfl
      rw [e2] at ih ⊢
      simp only [Option.map_some, Option.isSome_some, if_true]
      exact ih
    | none =>
      have e2 : meetF m (moveOf l false s i) (v + 1) = m ++ [(moveOf l false s i, v + 1)] := by unfold meetF; rw [q, if_neg (by decide)]
      rw [e2] at ih ⊢
      have hpl : (pairs m).length = m.length := by unfold pairs; rw [List.length_map]
      rw [if_neg (by simp), if_pos ⟨by rw [ints_length, List.length_drop, List.length_map]; omega, by omega⟩, look_pairs, hf]
      rw [List.map_append, List.drop_append_of_le_length (by rw [List.length_map]; exact hk), ints_append, pairs_append] at ih
      show impl_WayTo.inn l own (s : Int) d (i + 1) (ints ((m.map Prod.fst).drop kk) ++ [(moveOf l false s i : Int)]) (pairs m ++ [((moveOf l false s i : Int), wrap64 ((v : Int) + 1))]) = _
      rw [wrap_succ v (by omega)]
      exact ih
theorem impl_WayTo.bfs_eq (l : List Int) (own : Bool) (hG : GoodG l) (hn : l.length ≤ 9) (gg : Nat) :
    ∀ (f kk : Nat) (m : List (Nat × Nat)), kk + f = 2 ^ l.length → FarOk (moveOf l false) (2 ^ l.length) l.length gg m → impl_WayTo.bfs l own (f + 1) (ints ((m.map Prod.fst).drop kk)) (pairs m) = some (pairs (farGo (moveOf l false) l.length f kk m))
  | 0, kk, m, hk, ho => by
    have hl := ho.length
    rw [List.drop_eq_nil_of_le (by rw [List.length_map]; omega)]
    rfl
  | f + 1, kk, m, hk, ho => by
    unfold farGo
    by_cases h : kk < m.length
    · have hp := pow9 hn
      have hg := far_get ho.ok.apart kk h
      have hsN := ho.lt hg
      have e1 : (m.map Prod.fst).drop kk = m[kk].1 :: (m.map Prod.fst).drop (kk + 1) := by
        rw [List.drop_eq_getElem_cons (by rw [List.length_map]; exact h), List.getElem_map]
      have hi := impl_WayTo.inn_eq l own hG hn gg kk m[kk].1 m[kk].2 l.length 0 m (by omega) (by omega) ho hg
      have ih := impl_WayTo.bfs_eq l own hG hn gg f (kk + 1) _ (by omega) (farIn_ok (moves_lit l hG) l.length 0 m (by omega) ho hg)
      rw [dif_pos h]
      rw [e1] at hi ⊢
      show (if (Lit.int .i64 (m[kk].1 : Int)).wf = true then (impl_WayTo.inn l own (m[kk].1 : Int) l.length 0 ((m[kk].1 : Int) :: ints ((m.map Prod.fst).drop (kk + 1))) (pairs m)).bind fun p => impl_WayTo.bfs l own (f + 1) p.1.tail p.2 else none) = _
      rw [if_pos (wf_small (by omega) (by omega))]
      have hi2 : impl_WayTo.inn l own (m[kk].1 : Int) l.length 0 ((m[kk].1 : Int) :: ints ((m.map Prod.fst).drop (kk + 1))) (pairs m) = _ := hi
      rw [hi2, Option.bind_some]
      have e2 : ∀ q : List Nat, (ints (q.drop kk)).tail = ints (q.drop (kk + 1)) := fun q => by
        unfold ints
        rw [← List.map_tail, List.tail_drop]
      rw [e2]
      exact ih
    · rw [dif_neg h, List.drop_eq_nil_of_le (by rw [List.length_map]; omega)]
      rfl
theorem impl_WayTo.step_eq (l : List Int) (own : Bool) (hG : GoodG l) (hn : l.length ≤ 9) (gg : Nat) (m : List (Nat × Nat)) (ho : FarOk (moveOf l false) (2 ^ l.length) l.length gg m) (s v j : Nat) (out : List Nat) (hol : out.length ≤ 600) (hf : far m s = some (v + 1)) :
    ∀ (d i : Nat), i + d = l.length → stepTo (moveOf l false) m v s d i = some j → impl_WayTo.step l own (pairs m) v d i (s : Int) (ints out) = some (ints (out ++ [j]), (moveOf l false s j : Int))
  | 0, i, hd, h => by cases h
  | d + 1, i, hd, h => by
    have hp := pow9 hn
    have hl := ho.length
    have hsN := ho.lt hf
    have ht := moveOf_lt l hG false s i hsN (by omega)
    unfold stepTo at h
    unfold impl_WayTo.step
    rw [impl_Graph_litMove.eq l own hG s i hsN (by omega), Option.bind_some, if_pos (wf_small (by omega) (by omega)), look_pairs]
    cases q : far m (moveOf l false s i) with
    | none =>
      rw [if_neg (by rw [q]; simp)] at h
      rw [if_neg (by simp)]
      exact impl_WayTo.step_eq l own hG hn gg m ho s v j out hol hf d (i + 1) (by omega) h
    | some w =>
      simp only [Option.map_some, Option.isSome_some, Option.getD_some, if_true]
      by_cases e : w = v
      · subst e
        rw [if_pos q] at h
        obtain rfl : i = j := Option.some.inj h
        rw [if_pos rfl, if_pos (by rw [ints_length]; omega), ints_append]
        rfl
      · rw [if_neg (by rw [q]; simpa using e)] at h
        rw [if_neg (by show ¬ ((w : Int) = (v : Int)); omega)]
        exact impl_WayTo.step_eq l own hG hn gg m ho s v j out hol hf d (i + 1) (by omega) h
theorem impl_WayTo.back_eq (l : List Int) (own : Bool) (hG : GoodG l) (hn : l.length ≤ 9) (gg : Nat) (m : List (Nat × Nat)) (ho : FarOk (moveOf l false) (2 ^ l.length) l.length gg m) :
    ∀ (v s : Nat) (out : List Nat), far m s = some v → out.length + v ≤ 600 → impl_WayTo.back l own (pairs m) v (s : Int) (ints out) = some (ints (wayBack (moveOf l false) m l.length v s out))
  | 0, s, out, hf, hol => rfl
  | v + 1, s, out, hf, hol => by
    obtain ⟨j, h1, h2, h3⟩ := ho.stepTo hf
    have ih := impl_WayTo.back_eq l own hG hn gg m ho v (moveOf l false s j) (out ++ [j]) h3 (by rw [List.length_append, List.length_singleton]; omega)
    have e2 : wayBack (moveOf l false) m l.length (v + 1) s out = wayBack (moveOf l false) m l.length v (moveOf l false s j) (out ++ [j]) := by
      show (match stepTo (moveOf l false) m v s l.length 0 with | some j => _ | none => _) = _
      rw [h1]
    unfold impl_WayTo.back
    rw [impl_WayTo.step_eq l own hG hn gg m ho s v j out (by omega) hf l.length 0 (by omega) h1, Option.bind_some, e2]
    exact ih
theorem impl_WayTo.ev (l : List Int) (own : Bool) (a g : Int) : Ev (fun k => impl_WayTo.f k l own a g) (if (good l && decide (l.length ≤ 9) && inSet l.length a && inSet l.length g) = true then wayOf l a.toNat g.toNat else ([], false)) := by
  obtain ⟨K, hK⟩ := impl_isLit.ev l own [a, g]
  have ea : (good l && [a, g].all (inSet l.length) && decide (l.length ≤ 9)) = (good l && decide (l.length ≤ 9) && inSet l.length a && inSet l.length g) := by
    simp only [List.all_cons, List.all_nil, Bool.and_true]
    cases good l <;> cases inSet l.length a <;> cases inSet l.length g <;> cases decide (l.length ≤ 9) <;> rfl
  rw [ea] at hK
  cases e1 : (good l && decide (l.length ≤ 9) && inSet l.length a && inSet l.length g)
  · refine ⟨K, fun k hk => ?_⟩
    have h1 : impl_isLit.f k l own [a, g] = _ := hK k hk
    show impl_WayTo.f k l own a g = _
    unfold impl_WayTo.f
    rw [h1, Option.bind_some, e1]
    rfl
  · have e1' := e1
    simp only [Bool.and_eq_true, decide_eq_true_eq] at e1'
    have hG : GoodG l := (good_iff l).1 e1'.1.1.1
    have hn := e1'.1.1.2
    have ha : 0 ≤ a ∧ a < 2 ^ l.length := by simpa [inSet] using e1'.1.2
    have hg : 0 ≤ g ∧ g < 2 ^ l.length := by simpa [inSet] using e1'.2
    obtain ⟨a, rfl⟩ := Int.eq_ofNat_of_zero_le ha.1
    obtain ⟨g, rfl⟩ := Int.eq_ofNat_of_zero_le hg.1
    have hc := pow_cast l.length
    have hp := pow9 hn
    have hst : FarOk (moveOf l false) (2 ^ l.length) l.length g [(g, 0)] := FarOk.start (by omega)
    have hok := farGo_ok (moves_lit l hG) (2 ^ l.length) 0 [(g, 0)] hst
    have hb := impl_WayTo.bfs_eq l own hG hn g (2 ^ l.length) 0 [(g, 0)] (by omega) hst
    refine ⟨K + 2 ^ l.length + 1, fun k hk => ?_⟩
    have h1 : impl_isLit.f k l own [(a : Int), (g : Int)] = _ := hK k (by omega)
    have h2 : impl_WayTo.bfs l own k [(g : Int)] [((g : Int), 0)] = some (pairs (farGo (moveOf l false) l.length (2 ^ l.length) 0 [(g, 0)])) :=
      at_rounds (g := fun k => impl_WayTo.bfs l own k [(g : Int)] [((g : Int), 0)]) (fun k => impl_WayTo.bfs_mono l own k _ _) (show 2 ^ l.length + 1 ≤ k by omega) hb
    show impl_WayTo.f k l own (a : Int) (g : Int) = _
    unfold impl_WayTo.f
    rw [h1, Option.bind_some, e1, if_pos rfl, if_pos ⟨wf_small (by omega) (by omega), wf_small (by omega) (by omega)⟩, h2, Option.bind_some, if_pos rfl]
    show _ = some (wayOf l a g)
    unfold wayOf
    generalize farGo (moveOf l false) l.length (2 ^ l.length) 0 [(g, 0)] = M at hok ⊢
    rw [look_pairs]
    cases q : far M a with
    | none => rfl
    | some v =>
      have hv := hok.small a v q
      have hl := hok.length
      have hw := impl_WayTo.back_eq l own hG hn g M hok v a [] q (by simp; omega)
      show (if true = true then (if 0 ≤ (v : Int) ∧ (v : Int) < 4611686018427387904 then ((impl_WayTo.back l own (pairs M) ((v : Int)).toNat (a : Int) []).bind fun o => some (o, true)) else none) else some ([], false)) = _
      rw [if_pos rfl, if_pos ⟨by omega, by omega⟩, Int.toNat_natCast]
      have hw2 : impl_WayTo.back l own (pairs M) v (a : Int) [] = _ := hw
      rw [hw2]
      rfl

/-! laws_markIntS -/
theorem laws_markIntS.loop (n : Nat) (a : Int) (h0 : 0 ≤ a) (h1 : a + n < 4611686018427387904) (d : Nat) : ∀ (i : Nat) (o : List Int), o.length = n → n - i = d → i ≤ n → o.take i = (List.range i).map (fun (j : Nat) => a + (j : Int)) → Ev (fun k => laws_markIntS.l0 k o (a + i) (i : Int)) (a + n, marks n a) := by
  induction d with
  | zero =>
    intro i o ho hd hi ht
    refine now fun k => ?_
    have e : i = n := by omega
    subst e
    simp only [laws_markIntS.l0]
    rw [if_neg (by omega)]
    rw [List.take_of_length_le (by omega)] at ht
    rw [ht]
    rfl
  | succ d ih =>
    intro i o ho hd hi ht
    refine Ev.step (f := fun k => laws_markIntS.l0 k (o.set i (a + i)) (a + ((i + 1 : Nat) : Int)) ((i + 1 : Nat) : Int)) (fun k => ?_) (ih (i + 1) (o.set i (a + i)) (by simp [ho]) (by omega) (by omega) ?_)
    · simp only [laws_markIntS.l0]
      rw [if_pos (by omega), if_pos (by omega), wrap_succ i (by omega), wrap_id (by omega) (by omega), show a + (i : Int) + 1 = a + ((i + 1 : Nat) : Int) by omega]
      rfl
    · rw [List.take_succ_eq_append_getElem (by simp; omega), List.range_succ, List.map_append]
      simp [List.take_set_of_le, ht]
theorem laws_markIntS.ev (l : List Int) (a : Int) (h0 : 0 ≤ a) (h1 : a + l.length < 4611686018427387904) : Ev (fun k => laws_markIntS.f k l a) (a + l.length, marks l.length a) := by
  refine Ev.congr (f := fun k => laws_markIntS.l0 k l (a + ((0 : Nat) : Int)) ((0 : Nat) : Int)) (fun k => ?_) (laws_markIntS.loop l.length a h0 h1 l.length 0 l rfl (by omega) (by omega) (by simp))
  unfold laws_markIntS.f
  congr 1
  omega

/-! laws_markGraph -/
theorem laws_markGraph.ev (l : List Int) (b : Bool) (a : Int) (h0 : 0 ≤ a) (h1 : a + l.length < 4611686018427387904) : Ev (fun k => laws_markGraph.f k l b a) (a + l.length, marks l.length a) :=
  Ev.congr (f := fun k => (laws_markIntS.f k l a).bind fun t => some (t.1, t.2)) (fun k => rfl) (Ev.bind (laws_markIntS.ev l a h0 h1) (Ev.now _))

/-! laws_heldIntS -/
theorem laws_heldIntS.loop (n : Nat) (a : Int) (h0 : 0 ≤ a) (h1 : a + n < 4611686018427387904) (d : Nat) : ∀ i : Nat, n - i = d → i ≤ n → Ev (fun k => laws_heldIntS.l0 k (marks n a) (a + i) (i : Int)) (a + n) := by
  have hl : (marks n a).length = n := by simp [marks]
  induction d with
  | zero =>
    intro i hd hi
    refine now fun k => ?_
    simp only [laws_heldIntS.l0]
    rw [if_neg (by omega), show i = n by omega]
  | succ d ih =>
    intro i hd hi
    refine Ev.step (f := fun k => laws_heldIntS.l0 k (marks n a) (a + ((i + 1 : Nat) : Int)) ((i + 1 : Nat) : Int)) (fun k => ?_) (ih (i + 1) (by omega) (by omega))
    simp only [laws_heldIntS.l0]
    rw [if_pos (by omega), if_pos (by omega), rd_get _ i (by omega), if_pos (by simp [marks]), wrap_succ i (by omega), wrap_id (by omega) (by omega), show a + (i : Int) + 1 = a + ((i + 1 : Nat) : Int) by omega]
theorem laws_heldIntS.ev (n : Nat) (a : Int) (h0 : 0 ≤ a) (h1 : a + n < 4611686018427387904) : Ev (fun k => laws_heldIntS.f k (marks n a) a) (a + n) := by
  refine Ev.congr (f := fun k => laws_heldIntS.l0 k (marks n a) (a + ((0 : Nat) : Int)) ((0 : Nat) : Int)) (fun k => ?_) (laws_heldIntS.loop n a h0 h1 n 0 (by omega) (by omega))
  unfold laws_heldIntS.f
  congr 1
  omega
end Go.Proofs.Ytcdphbpbfmjheaa.Pure
