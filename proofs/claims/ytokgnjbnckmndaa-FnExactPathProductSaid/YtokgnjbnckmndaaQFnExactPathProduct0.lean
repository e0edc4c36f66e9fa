/- What the functions of FnExactPathProduct compute, in plain words. -/
import Derived.Test.YtokgnjbnckmndaaPFnExactPathProductx9
import Derived.Test.YtokgnjbnckmndaaM1
import Derived.Test.YtokgnjbnckmndaaM2
import Derived.Test.YtokgnjbnckmndaaM4
import Derived.Test.YtokgnjbnckmndaaM5
import Derived.Test.YtokgnjbnckmndaaM6
import Derived.Test.YtokgnjbnckmndaaM8
import Derived.Test.YtokgnjbnckmndaaM10
namespace Go.Proofs.Ytokgnjbnckmndaa.Pure
open Go.RowKit Go.Proofs.Ytokgnjbnckmndaa.PFnExactPathProduct Go.Proofs.YtokgnjbnckmndaaW.PrintWords Go.Proofs.YtokgnjbnckmndaaW.PrintLast Go.Proofs.YtokgnjbnckmndaaW.PrintMore Go.Proofs.YtokgnjbnckmndaaM
set_option linter.unusedVariables false
set_option linter.unusedSimpArgs false
/-! laws_szIntS -/
theorem laws_szIntS.eq (l : List Int) (n : Int) (h0 : 0 ≤ n) (h1 : n ≤ 1048576) (h : l.length ≤ 35184372088832) : laws_szIntS.f l n = some (if n < l.length then -1 else n - l.length) := by
  unfold laws_szIntS.f
  rw [wrap_id (by omega) (by omega)]
  by_cases e : n < l.length
  · rw [if_pos (by omega), if_pos e]
  · rw [if_neg (by omega), if_neg e]

/-! laws_szGraph -/
theorem laws_szGraph.eq (l : List Int) (b : Bool) (n : Int) (h0 : 0 ≤ n) (h1 : n ≤ 1048576) (h : l.length ≤ 35184372088832) : laws_szGraph.f l b n = some (if n < l.length then -1 else n - l.length) := by
  unfold laws_szGraph.f
  rw [laws_szIntS.eq l n h0 h1 h]
  by_cases e : n < l.length
  · simp [e]
  · have : ¬ (n - l.length < 0) := by omega
    simp [e]
    omega

/-! laws_toIntS -/
theorem laws_toIntS.loop (a : List Int) (h : a.length < 4611686018427387904) (d : Nat) : ∀ (i : Nat) (o : List Int), a.length - i = d → i ≤ a.length → o.length = a.length → o.take i = a.take i → Ev (fun k => laws_toIntS.l0 k a o (i : Int)) a := by
  induction d with
  | zero =>
    intro i o hd hi ho ht
    have e : o = a := by
      have : i = a.length := by omega
      subst this
      rw [List.take_length, List.take_of_length_le (by omega)] at ht
      exact ht
    subst e
    refine now fun k => ?_
    simp only [laws_toIntS.l0]
    rw [if_neg (by omega)]
  | succ d ih =>
    intro i o hd hi ho ht
    have hlt : i < a.length := by omega
    refine Ev.step (f := fun k => laws_toIntS.l0 k a (o.set i a[i]) ((i + 1 : Nat) : Int)) (fun k => ?_) (ih (i + 1) (o.set i a[i]) (by omega) (by omega) (by rw [List.length_set]; exact ho) ?_)
    · simp only [laws_toIntS.l0]
      rw [if_pos (by omega), if_pos (by omega), if_pos (by omega), rd_get a i hlt, wrap_succ i (by omega)]
      rfl
    · rw [List.take_succ_eq_append_getElem (by simp [ho, hlt]), List.take_succ_eq_append_getElem hlt]
      simp [List.take_set_of_le, ht]
theorem laws_toIntS.ev (a : List Int) (h : a.length ≤ 35184372088832) : Ev (fun k => laws_toIntS.f k a) a := by
  refine Ev.congr (f := fun k => laws_toIntS.l0 k a (List.replicate a.length 0) ((0 : Nat) : Int)) (fun k => ?_) (laws_toIntS.loop a (by omega) a.length 0 _ (by omega) (by omega) (by simp) (by simp))
  unfold laws_toIntS.f
  rw [if_pos (by omega), if_pos (by omega)]
  rfl

/-! laws_toGraph -/
theorem laws_toGraph.ev (l : List Int) (b : Bool) (h : l.length ≤ 35184372088832) : Ev (fun k => laws_toGraph.f k l b) (l, b) :=
  Ev.congr (f := fun k => (laws_toIntS.f k l).bind fun t => some (t, b)) (fun k => rfl) (Ev.bind (laws_toIntS.ev l h) (Ev.now _))

/-! laws_eqIntS -/
theorem laws_eqIntS.loop (a b : List Int) (hl : a.length = b.length) (h : a.length < 4611686018427387904) (d : Nat) : ∀ i : Nat, a.length - i = d → i ≤ a.length → Ev (fun k => laws_eqIntS.l0 k a b (i : Int)) (decide (a.drop i = b.drop i)) := by
  induction d with
  | zero =>
    intro i hd hi
    refine now fun k => ?_
    simp only [laws_eqIntS.l0]
    rw [if_neg (by omega), List.drop_eq_nil_of_le (by omega), List.drop_eq_nil_of_le (by omega)]
    rfl
  | succ d ih =>
    intro i hd hi
    have hlt : i < a.length := by omega
    have hltb : i < b.length := by omega
    rw [drop_cons a i hlt, drop_cons b i hltb]
    by_cases e : a[i] = b[i]
    · have := ih (i + 1) (by omega) (by omega)
      refine Ev.step (f := fun k => laws_eqIntS.l0 k a b ((i + 1 : Nat) : Int)) (fun k => ?_) (by rw [show decide (a[i] :: a.drop (i + 1) = b[i] :: b.drop (i + 1)) = decide (a.drop (i + 1) = b.drop (i + 1)) by simp only [List.cons.injEq, e, true_and]]; exact this)
      simp only [laws_eqIntS.l0]
      rw [if_pos (by omega), if_pos (by omega), if_pos (by omega), rd_get a i hlt, rd_get b i hltb, if_pos e, wrap_succ i (by omega)]
    · refine now fun k => ?_
      simp only [laws_eqIntS.l0]
      rw [if_pos (by omega), if_pos (by omega), if_pos (by omega), rd_get a i hlt, rd_get b i hltb, if_neg e, show decide (a[i] :: a.drop (i + 1) = b[i] :: b.drop (i + 1)) = false by simp only [List.cons.injEq, e, false_and, decide_false]]
theorem laws_eqIntS.ev (a b : List Int) (h : a.length < 4611686018427387904) : Ev (fun k => laws_eqIntS.f k a b) (decide (a = b)) := by
  by_cases hl : a.length = b.length
  · have := laws_eqIntS.loop a b hl h a.length 0 (by omega) (by omega)
    refine Ev.congr (f := fun k => laws_eqIntS.l0 k a b ((0 : Nat) : Int)) (fun k => ?_) (by simpa using this)
    unfold laws_eqIntS.f
    rw [if_pos (by omega)]
    rfl
  · refine always fun k => ?_
    unfold laws_eqIntS.f
    rw [if_neg (by omega)]
    have : ¬ a = b := fun e => hl (by rw [e])
    simp [this]

/-! laws_eqGraph -/
theorem laws_eqGraph.ev (a : List Int) (x : Bool) (b : List Int) (y : Bool) (h : a.length < 4611686018427387904) : Ev (fun k => laws_eqGraph.f k a x b y) (decide (a = b) && (x == y)) := by
  obtain ⟨K, hK⟩ := laws_eqIntS.ev a b h
  refine ⟨K, fun k hk => ?_⟩
  have h1 : laws_eqIntS.f k a b = _ := hK k hk
  simp only [laws_eqGraph.f, h1, Option.bind_some]
  cases x <;> cases y <;> by_cases e : a = b <;> simp [e]

/-! spec_grIn -/
theorem spec_grIn.eq (x i : Int) (hx : 0 ≤ x) (hx1 : x < 2 ^ 63) (hi : 0 ≤ i) : spec_grIn.f x i = some (bit x i) := by unfold spec_grIn.f; rw [if_pos hi, in_bit hx hx1 hi]

/-! spec_l1In -/
theorem spec_l1In.eq (x a b : Int) : spec_l1In.f x a b = some (decide (a ≤ x) && decide (x ≤ b)) := by
  unfold spec_l1In.f
  by_cases h : a ≤ x
  · rw [if_pos (by omega)]; simp [h]
  · rw [if_neg (by omega)]; simp [h]

/-! spec_grSize -/
theorem spec_grSize.eq (x : Int) : spec_grSize.f x = some (decide (1 ≤ x) && decide (x ≤ 16)) := by unfold spec_grSize.f; rw [spec_l1In.eq]; rfl

/-! spec_l1All -/
theorem spec_l1All.loop (l : List Int) (a b : Int) (h : l.length < 4611686018427387904) (d : Nat) : ∀ i : Nat, l.length - i = d → i ≤ l.length → Ev (fun k => spec_l1All.l0 k a b l (l.length : Int) (i : Int)) ((l.drop i).all fun x => decide (a ≤ x) && decide (x ≤ b)) := by
  induction d with
  | zero =>
    intro i hd hi
    refine now fun k => ?_
    simp only [spec_l1All.l0]
    rw [if_neg (by omega), List.drop_eq_nil_of_le (by omega)]
    rfl
  | succ d ih =>
    intro i hd hi
    have hlt : i < l.length := by omega
    rw [drop_cons l i hlt, List.all_cons]
    by_cases e : (decide (a ≤ l[i]) && decide (l[i] ≤ b)) = true
    · refine Ev.step (f := fun k => spec_l1All.l0 k a b l (l.length : Int) ((i + 1 : Nat) : Int)) (fun k => ?_) (by rw [e, Bool.true_and]; exact ih (i + 1) (by omega) (by omega))
      simp only [spec_l1All.l0]
      rw [if_pos (by omega), if_pos (by omega), if_pos (by omega), rd_get l i hlt, spec_l1In.eq, e, wrap_succ i (by omega)]
      rfl
    · refine now fun k => ?_
      simp only [spec_l1All.l0]
      replace e := Bool.eq_false_iff.mpr e
      rw [if_pos (by omega), if_pos (by omega), if_pos (by omega), rd_get l i hlt, spec_l1In.eq, e]
      rfl
theorem spec_l1All.ev (l : List Int) (a b : Int) (h : l.length < 4611686018427387904) : Ev (fun k => spec_l1All.f k l a b) (l.all fun x => decide (a ≤ x) && decide (x ≤ b)) :=
  spec_l1All.loop l a b h l.length 0 (by omega) (by omega)

/-! spec_grGood -/
theorem spec_grGood.inner (l : List Int) (own : Bool) (hn : l.length ≤ 16) (hg : ∀ x ∈ l, 0 ≤ x ∧ x < 2 ^ l.length) (i : Nat) (hi : i < l.length) (r : Bool) (hr : Ev (fun k => spec_grGood.l0 k l (l.length : Int) ((i + 1 : Nat) : Int) l own) r) (d : Nat) :
    ∀ j : Nat, l.length - j = d → j ≤ l.length → Ev (fun k => spec_grGood.l1 k (i : Int) l[i] l (l.length : Int) (i : Int) (l.length : Int) (j : Int) l own) (((List.range' j (l.length - j)).all fun j => okPair l i j) && r) := by
  induction d with
  | zero =>
    intro j hd hj
    refine Ev.step (f := fun k => spec_grGood.l0 k l (l.length : Int) ((i + 1 : Nat) : Int) l own) (fun k => ?_) (by rw [hd]; simpa using hr)
    simp only [spec_grGood.l1]
    rw [if_neg (by omega), wrap_succ i (by omega)]
  | succ d ih =>
    intro j hd hj
    have hlt : j < l.length := by omega
    have hbi := set_bounds l hn hg i hi
    have hbj := set_bounds l hn hg j hlt
    rw [hd, List.range'_succ, List.all_cons, Bool.and_assoc]
    have ih' := ih (j + 1) (by omega) (by omega)
    rw [show l.length - (j + 1) = d by omega] at ih'
    have hb := spec_grIn.eq l[i] (j : Int) hbi.1 hbi.2 (by omega)
    have hb2 := spec_grIn.eq l[j] (i : Int) hbj.1 hbj.2 (by omega)
    have step : ∀ k, spec_grGood.l1 (k + 1) (i : Int) l[i] l (l.length : Int) (i : Int) (l.length : Int) (j : Int) l own = if okPair l i j = true then spec_grGood.l1 k (i : Int) l[i] l (l.length : Int) (i : Int) (l.length : Int) ((j + 1 : Nat) : Int) l own else some false := by
      intro k
      simp only [spec_grGood.l1]
      rw [if_pos (by omega), hb, Option.bind_some, okPair_eq l i j hi hlt]
      cases e1 : bit l[i] (j : Int)
      · simp only [Bool.false_eq_true, if_false, Bool.not_false, Bool.true_or, if_true]
        rw [wrap_succ j (by omega)]
      · simp only [if_true, Bool.not_true, Bool.false_or]
        by_cases e2 : i = j
        · subst e2
          simp
        · rw [if_neg (by omega), if_pos (by omega), if_pos (by omega), rd_get l j hlt, hb2, Option.bind_some, wrap_succ j (by omega)]
          simp [e2]
    cases e : okPair l i j
    · rw [Bool.false_and]
      exact now fun k => by rw [step k, e]; rfl
    · rw [Bool.true_and]
      exact Ev.step (fun k => by rw [step k, e]; rfl) ih'
theorem spec_grGood.outer (l : List Int) (own : Bool) (hn : l.length ≤ 16) (hg : ∀ x ∈ l, 0 ≤ x ∧ x < 2 ^ l.length) (d : Nat) :
    ∀ i : Nat, l.length - i = d → i ≤ l.length → Ev (fun k => spec_grGood.l0 k l (l.length : Int) (i : Int) l own) ((List.range' i (l.length - i)).all fun i => (List.range' 0 l.length).all fun j => okPair l i j) := by
  induction d with
  | zero =>
    intro i hd hi
    refine now fun k => ?_
    simp only [spec_grGood.l0]
    rw [if_neg (by omega), hd]
    rfl
  | succ d ih =>
    intro i hd hi
    have hlt : i < l.length := by omega
    rw [hd, List.range'_succ, List.all_cons]
    have ih' := ih (i + 1) (by omega) (by omega)
    rw [show l.length - (i + 1) = d by omega] at ih'
    refine Ev.step (f := fun k => spec_grGood.l1 k (i : Int) l[i] l (l.length : Int) (i : Int) (l.length : Int) ((0 : Nat) : Int) l own) (fun k => ?_) (spec_grGood.inner l own hn hg i hlt _ ih' l.length 0 (by omega) (by omega))
    simp only [spec_grGood.l0]
    rw [if_pos (by omega), if_pos (by omega), if_pos (by omega), rd_get l i hlt]
    rfl
theorem spec_grGood.ev (l : List Int) (own : Bool) (h : l.length < 4611686018427387904) : Ev (fun k => spec_grGood.f k l own) (good l) := by
  rw [good_eq]
  by_cases hn : 1 ≤ l.length ∧ l.length ≤ 16
  · have e1 : spec_grSize.f (l.length : Int) = some true := by rw [spec_grSize.eq, decide_eq_true (by omega), decide_eq_true (by omega)]; rfl
    have e2 := spec_l1All.ev l 0 (wrap64 ((shl .i64 1 (l.length : Int)) - 1)) h
    rw [whole_eq (by omega) (by omega)] at e2
    rw [show (decide (1 ≤ l.length ∧ l.length ≤ 16)) = true from decide_eq_true hn, Bool.true_and]
    have e3 : (l.all fun x => decide (0 ≤ x) && decide (x ≤ 2 ^ (l.length : Int).toNat - 1)) = l.all (inSet l.length) := by
      congr 1
      funext x
      unfold inSet
      rw [Int.toNat_natCast]
      congr 1
      rw [Bool.eq_iff_iff]
      simp only [decide_eq_true_eq]
      omega
    rw [e3] at e2
    obtain ⟨K, hK⟩ := e2
    by_cases hg : l.all (inSet l.length) = true
    · rw [hg, Bool.true_and]
      have hg' := inSet_all l hg
      obtain ⟨K2, hK2⟩ := spec_grGood.outer l own hn.2 hg' l.length 0 (by omega) (by omega)
      refine ⟨K + K2 + 1, fun k hk => ?_⟩
      obtain ⟨m, rfl⟩ : ∃ m, k = m + 1 := ⟨k - 1, by omega⟩
      have h1 : spec_l1All.f (m + 1) l 0 (2 ^ (l.length : Int).toNat - 1) = _ := hK (m + 1) (by omega)
      have h2 : spec_grGood.l0 m l (l.length : Int) ((0 : Nat) : Int) l own = _ := hK2 m (by omega)
      show spec_grGood.f (m + 1) l own = _
      unfold spec_grGood.f
      rw [e1, Option.bind_some, if_pos rfl, whole_eq (by omega) (by omega), h1, Option.bind_some, hg]
      simp only [spec_grGood.j0, Bool.not_true, Bool.false_eq_true, if_false]
      rw [Nat.sub_zero] at h2
      exact h2
    · replace hg := Bool.eq_false_iff.mpr hg
      rw [hg, Bool.false_and]
      refine ⟨K + 1, fun k hk => ?_⟩
      obtain ⟨m, rfl⟩ : ∃ m, k = m + 1 := ⟨k - 1, by omega⟩
      have h1 : spec_l1All.f (m + 1) l 0 (2 ^ (l.length : Int).toNat - 1) = _ := hK (m + 1) (by omega)
      show spec_grGood.f (m + 1) l own = _
      unfold spec_grGood.f
      rw [e1, Option.bind_some, if_pos rfl, whole_eq (by omega) (by omega), h1, Option.bind_some, hg]
      simp only [spec_grGood.j0, Bool.not_false, if_true]
  · have e1 : spec_grSize.f (l.length : Int) = some false := by
      rw [spec_grSize.eq]
      congr 1
      rw [Bool.and_eq_false_iff, decide_eq_false_iff_not, decide_eq_false_iff_not]
      omega
    rw [show (decide (1 ≤ l.length ∧ l.length ≤ 16)) = false from decide_eq_false hn, Bool.false_and]
    refine now fun k => ?_
    unfold spec_grGood.f
    rw [e1, Option.bind_some, if_neg (by decide)]
    simp only [spec_grGood.j0, if_true]

/-! spec_soTop -/
theorem spec_soTop.loop : ∀ (n : Nat) (x : Nat) (o : Int), blen x = n → n ≤ 63 → -1 ≤ o → o + n ≤ 100 → Ev (fun k => spec_soTop.l0 k (x : Int) o) (o + n)
  | 0, x, o, hn, _, h0, h1 => by
    have : x = 0 := by
      by_cases e : x = 0
      · exact e
      · rw [blen_pos e] at hn; omega
    subst this
    refine now fun k => ?_
    simp only [spec_soTop.l0]
    rw [if_neg (by decide)]
    simp
  | n + 1, x, o, hn, h63, h0, h1 => by
    have hb : x < 2 ^ 63 := lt_of_blen (by omega)
    have hx : x ≠ 0 := fun e => by rw [e, blen_zero] at hn; omega
    rw [blen_pos hx] at hn
    have ih := spec_soTop.loop n (x / 2) (o + 1) (by omega) (by omega) (by omega) (by omega)
    rw [show o + 1 + (n : Int) = o + ((n + 1 : Nat) : Int) by omega] at ih
    refine Ev.step (f := fun k => spec_soTop.l0 k ((x / 2 : Nat) : Int) (o + 1)) (fun k => ?_) ih
    simp only [spec_soTop.l0]
    rw [if_pos (by omega), Int.tdiv_eq_ediv_of_nonneg (by omega), wrap_id (by omega) (by omega), wrap_id (by omega) (by omega), show (x : Int) / 2 = ((x / 2 : Nat) : Int) by omega]
theorem spec_soTop.ev (x : Nat) (hx : x < 2 ^ 63) : Ev (fun k => spec_soTop.f k (x : Int)) (pdeg x) := by
  have hb : blen x ≤ 63 := blen_le hx
  have := spec_soTop.loop (blen x) x (-1) rfl hb (by omega) (by omega)
  rw [show (-1 : Int) + (blen x : Int) = pdeg x by unfold pdeg; omega] at this
  exact this

/-! spec_soReduce -/
theorem spec_soReduce.loop (l : List Nat) (hl : ∀ b ∈ l, b < 2 ^ 62 ∧ b ≠ 0) (hn : l.length ≤ 1048576) : ∀ (i s : Nat), i ≤ l.length → s < 2 ^ 62 → Ev (fun k => spec_soReduce.l0 k (ints l) (s : Int) ((i : Int) - 1)) (red (l.take i) s : Int)
  | 0, s, _, _ => by
    refine now fun k => ?_
    simp only [spec_soReduce.l0]
    rw [if_neg (by omega)]
    rfl
  | i + 1, s, hi, hs => by
    have hb := hl l[i] (List.getElem_mem (by omega))
    have h1 := blen_ne hb.2
    have ih := spec_soReduce.loop l hl hn i (redOne s l[i]) (by omega) (redOne_lt hs hb.1)
    have e0 : red (l.take (i + 1)) s = red (l.take i) (redOne s l[i]) := by
      rw [List.take_succ_eq_append_getElem (by omega)]
      unfold red
      rw [List.foldr_append]
      rfl
    rw [e0]
    obtain ⟨K, hK⟩ := ev_and (spec_soTop.ev l[i] (by omega)) ih
    refine ⟨K + 1, fun k hk => ?_⟩
    obtain ⟨j, rfl⟩ : ∃ j, k = j + 1 := ⟨k - 1, by omega⟩
    obtain ⟨c1, c2⟩ := hK j (by omega)
    have e1 : bit (s : Int) (pdeg l[i]) = s.testBit (blen l[i] - 1) := by
      unfold bit pdeg
      rw [show ((blen l[i] : Int) - 1).toNat = blen l[i] - 1 by omega]
      rfl
    show spec_soReduce.l0 (j + 1) (ints l) (s : Int) (((i + 1 : Nat) : Int) - 1) = _
    simp only [spec_soReduce.l0]
    rw [show (((i + 1 : Nat) : Int) - 1) = (i : Int) by omega, if_pos (by omega), if_pos (by omega), if_pos (by rw [ints_length]; omega), ints_get l i (by omega), c1, Option.bind_some, spec_grIn.eq (s : Int) (pdeg l[i]) (by omega) (by omega) (by unfold pdeg; omega), Option.bind_some, e1, wrap_id (by omega) (by omega)]
    by_cases e : s.testBit (blen l[i] - 1) = true
    · have er : redOne s l[i] = s ^^^ l[i] := if_pos e
      rw [er] at c2 ⊢
      rw [if_pos e, xor_nat s l[i] (by omega) (by omega)]
      exact c2
    · have er : redOne s l[i] = s := if_neg e
      rw [er] at c2 ⊢
      rw [if_neg e]
      exact c2
theorem spec_soReduce.ev (l : List Nat) (hl : ∀ b ∈ l, b < 2 ^ 62 ∧ b ≠ 0) (hn : l.length ≤ 1048576) (s : Nat) (hs : s < 2 ^ 62) : Ev (fun k => spec_soReduce.f k (ints l) (s : Int)) (red l s : Int) := by
  have h := spec_soReduce.loop l hl hn l.length s (Nat.le_refl _) hs
  rw [List.take_length] at h
  refine Ev.congr (f := fun k => spec_soReduce.l0 k (ints l) (s : Int) ((l.length : Int) - 1)) (fun k => ?_) h
  unfold spec_soReduce.f
  rw [ints_length, wrap_id (by omega) (by omega)]

/-! spec_soPut -/
theorem spec_soPut.high (l : List Nat) (hl : ∀ b ∈ l, b < 2 ^ 62) (hn : l.length ≤ 1048576) (t : Nat) (ht : t < 2 ^ 62) (h0 : t ≠ 0) (d : Nat) :
    ∀ (i : Nat) (o : List Nat), l.length - i = d → i ≤ l.length → o.length ≤ 2097152 + i → Ev (fun k => spec_soPut.l1 k (t : Int) (pdeg t) (ints o) (ints l) (l.length : Int) (i : Int)) (ints (o ++ ((l.drop i).filter (fun b => decide (blen t < blen b))).map (putOne t))) := by
  have h1 := blen_ne h0
  induction d with
  | zero =>
    intro i o hd hi ho
    refine now fun k => ?_
    simp only [spec_soPut.l1]
    rw [if_neg (by omega), List.drop_eq_nil_of_le (by omega)]
    simp
  | succ d ih =>
    intro i o hd hi ho
    have hlt : i < l.length := by omega
    have hb := hl l[i] (List.getElem_mem hlt)
    rw [drop_cons l i hlt, List.filter_cons]
    by_cases e : blen t < blen l[i]
    · rw [if_pos (by simpa using e), List.map_cons]
      obtain ⟨K, hK⟩ := ev_and (spec_soTop.ev l[i] (by omega)) (ih (i + 1) (o ++ [putOne t l[i]]) (by omega) (by omega) (by simp; omega))
      refine ⟨K + 1, fun k hk => ?_⟩
      obtain ⟨j, rfl⟩ : ∃ j, k = j + 1 := ⟨k - 1, by omega⟩
      obtain ⟨c1, c2⟩ := hK j (by omega)
      have e1 : bit (l[i] : Int) (pdeg t) = l[i].testBit (blen t - 1) := by
        unfold bit pdeg
        rw [show ((blen t : Int) - 1).toNat = blen t - 1 by omega]
        rfl
      show spec_soPut.l1 (j + 1) (t : Int) (pdeg t) (ints o) (ints l) (l.length : Int) (i : Int) = _
      simp only [spec_soPut.l1]
      rw [if_pos (by omega), if_pos (by omega), if_pos (by rw [ints_length]; omega), ints_get l i hlt, c1, Option.bind_some, if_pos (by unfold pdeg; omega), spec_grIn.eq (l[i] : Int) (pdeg t) (by omega) (by omega) (by unfold pdeg; omega), Option.bind_some, e1]
      simp only [if_pos (show (ints o).length < 17592186044416 by rw [ints_length]; omega), wrap_succ i (show i < 4611686018427387904 by omega)]
      rw [ints_append] at c2
      rw [List.append_assoc, List.singleton_append] at c2
      by_cases e2 : l[i].testBit (blen t - 1) = true
      · have er : putOne t l[i] = l[i] ^^^ t := if_pos e2
        rw [er] at c2 ⊢
        rw [if_pos e2, xor_nat l[i] t (by omega) (by omega)]
        exact c2
      · have er : putOne t l[i] = l[i] := if_neg e2
        rw [er] at c2 ⊢
        rw [if_neg e2]
        exact c2
    · rw [if_neg (by simpa using e)]
      obtain ⟨K, hK⟩ := ev_and (spec_soTop.ev l[i] (by omega)) (ih (i + 1) o (by omega) (by omega) (by omega))
      refine ⟨K + 1, fun k hk => ?_⟩
      obtain ⟨j, rfl⟩ : ∃ j, k = j + 1 := ⟨k - 1, by omega⟩
      obtain ⟨c1, c2⟩ := hK j (by omega)
      show spec_soPut.l1 (j + 1) (t : Int) (pdeg t) (ints o) (ints l) (l.length : Int) (i : Int) = _
      simp only [spec_soPut.l1]
      rw [if_pos (by omega), if_pos (by omega), if_pos (by rw [ints_length]; omega), ints_get l i hlt, c1, Option.bind_some, if_neg (by unfold pdeg; omega), wrap_succ i (by omega)]
      exact c2
theorem spec_soPut.low (l : List Nat) (hl : ∀ b ∈ l, b < 2 ^ 62) (hn : l.length ≤ 1048576) (t : Nat) (ht : t < 2 ^ 62) (h0 : t ≠ 0) (d : Nat) :
    ∀ (i : Nat) (o : List Nat), l.length - i = d → i ≤ l.length → o.length ≤ i → Ev (fun k => spec_soPut.l0 k (ints l) (t : Int) (pdeg t) (ints o) (ints l) (l.length : Int) (i : Int)) (ints (o ++ (l.drop i).filter (fun b => decide (blen b < blen t)) ++ [t] ++ (l.filter (fun b => decide (blen t < blen b))).map (putOne t))) := by
  have h1 := blen_ne h0
  induction d with
  | zero =>
    intro i o hd hi ho
    have hh := spec_soPut.high l hl hn t ht h0 l.length 0 (o ++ [t]) (by omega) (by omega) (by simp; omega)
    rw [List.drop_zero, ints_append] at hh
    refine Ev.step (f := fun k => spec_soPut.l1 k (t : Int) (pdeg t) (ints o ++ ints [t]) (ints l) (l.length : Int) ((0 : Nat) : Int)) (fun k => ?_) (by rw [List.drop_eq_nil_of_le (by omega)]; simpa using hh)
    simp only [spec_soPut.l0]
    rw [if_neg (by omega), if_pos (by rw [ints_length]; omega), ints_length]
    rfl
  | succ d ih =>
    intro i o hd hi ho
    have hlt : i < l.length := by omega
    have hb := hl l[i] (List.getElem_mem hlt)
    rw [drop_cons l i hlt, List.filter_cons]
    by_cases e : blen l[i] < blen t
    · rw [if_pos (by simpa using e)]
      obtain ⟨K, hK⟩ := ev_and (spec_soTop.ev l[i] (by omega)) (ih (i + 1) (o ++ [l[i]]) (by omega) (by omega) (by simp; omega))
      refine ⟨K + 1, fun k hk => ?_⟩
      obtain ⟨j, rfl⟩ : ∃ j, k = j + 1 := ⟨k - 1, by omega⟩
      obtain ⟨c1, c2⟩ := hK j (by omega)
      show spec_soPut.l0 (j + 1) (ints l) (t : Int) (pdeg t) (ints o) (ints l) (l.length : Int) (i : Int) = _
      simp only [spec_soPut.l0]
      rw [if_pos (by omega), if_pos (by omega), if_pos (by rw [ints_length]; omega), ints_get l i hlt, c1, Option.bind_some, if_pos (by unfold pdeg; omega), if_pos (by rw [ints_length]; omega), wrap_succ i (by omega)]
      rw [ints_append, List.append_assoc o, List.singleton_append] at c2
      exact c2
    · rw [if_neg (by simpa using e)]
      obtain ⟨K, hK⟩ := ev_and (spec_soTop.ev l[i] (by omega)) (ih (i + 1) o (by omega) (by omega) (by omega))
      refine ⟨K + 1, fun k hk => ?_⟩
      obtain ⟨j, rfl⟩ : ∃ j, k = j + 1 := ⟨k - 1, by omega⟩
      obtain ⟨c1, c2⟩ := hK j (by omega)
      show spec_soPut.l0 (j + 1) (ints l) (t : Int) (pdeg t) (ints o) (ints l) (l.length : Int) (i : Int) = _
      simp only [spec_soPut.l0]
      rw [if_pos (by omega), if_pos (by omega), if_pos (by rw [ints_length]; omega), ints_get l i hlt, c1, Option.bind_some, if_neg (by unfold pdeg; omega), wrap_succ i (by omega)]
      exact c2
theorem spec_soPut.ev (l : List Nat) (s : Nat) (hs : s < 2 ^ 62) (hl : ∀ b ∈ l, b < 2 ^ 62) (hB : Basis l) (hn : l.length ≤ 1048576) : Ev (fun k => spec_soPut.f k (ints l) (s : Int)) (ints (put l s)) := by
  have hr := red_lt l s hl hs
  obtain ⟨K1, hK1⟩ := spec_soReduce.ev l (fun b hb => ⟨hl b hb, hB.pos b hb⟩) hn s hs
  unfold put
  by_cases hz : red l s = 0
  · rw [if_pos hz]
    refine ⟨K1, fun k hk => ?_⟩
    have c1 : spec_soReduce.f k (ints l) (s : Int) = _ := hK1 k hk
    show spec_soPut.f k (ints l) (s : Int) = _
    unfold spec_soPut.f
    rw [c1, Option.bind_some, if_pos (by omega)]
  · rw [if_neg hz]
    obtain ⟨K2, hK2⟩ := ev_and (spec_soTop.ev (red l s) (by omega)) (spec_soPut.low l hl hn (red l s) hr hz l.length 0 [] (by omega) (by omega) (by simp))
    refine ⟨K1 + K2, fun k hk => ?_⟩
    have c1 : spec_soReduce.f k (ints l) (s : Int) = _ := hK1 k (by omega)
    obtain ⟨c2, c3⟩ := hK2 k (by omega)
    show spec_soPut.f k (ints l) (s : Int) = _
    unfold spec_soPut.f
    rw [c1, Option.bind_some, if_neg (by omega), c2, Option.bind_some, ints_length]
    rw [List.drop_zero, List.nil_append] at c3
    exact c3

/-! spec_prNullity -/
theorem spec_prNullity.loop (m : List Nat) (hm : ∀ x ∈ m, x < 2 ^ 62) (hl : m.length ≤ 1000) (d : Nat) :
    ∀ (i : Nat) (b : List Nat), m.length - i = d → i ≤ m.length → b = puts [] (m.take i) → Ev (fun k => spec_prNullity.l0 k (ints m) (ints b) (ints m) (m.length : Int) (i : Int)) (nulMap m) := by
  induction d with
  | zero =>
    intro i b hd hi hb
    have hbl := puts_length_le (m.take i) []
    rw [List.take_of_length_le (by omega)] at hb hbl
    refine now fun k => ?_
    simp only [spec_prNullity.l0]
    rw [if_neg (by omega), ints_length, ints_length, hb]
    simp only [List.length_nil] at hbl
    rw [wrap_id (by omega) (by omega)]
    rfl
  | succ d ih =>
    intro i b hd hi hb
    have hlt : i < m.length := by omega
    have hB : Basis b := by rw [hb]; exact puts_basis _ basis_nil
    have hlo : ∀ x ∈ b, x < 2 ^ 62 := by rw [hb]; exact puts_lt _ (fun x hx => by simp at hx) (fun x hx => hm x (List.mem_of_mem_take hx))
    have hbl : b.length ≤ 1000 := by
      have := puts_length_le (m.take i) []
      rw [← hb] at this
      simp at this
      omega
    obtain ⟨K, hK⟩ := ev_and (spec_soPut.ev b m[i] (hm _ (List.getElem_mem hlt)) hlo hB (by omega)) (ih (i + 1) (put b m[i]) (by omega) (by omega) (by rw [List.take_succ_eq_append_getElem hlt, hb]; unfold puts; rw [List.foldl_append]; rfl))
    refine ⟨K + 1, fun k hk => ?_⟩
    obtain ⟨j, rfl⟩ : ∃ j, k = j + 1 := ⟨k - 1, by omega⟩
    obtain ⟨c1, c2⟩ := hK j (by omega)
    show spec_prNullity.l0 (j + 1) (ints m) (ints b) (ints m) (m.length : Int) (i : Int) = _
    simp only [spec_prNullity.l0]
    rw [if_pos (by omega), if_pos (by omega), if_pos (by rw [ints_length]; omega), ints_get m i hlt, c1, Option.bind_some, wrap_succ i (by omega)]
    exact c2
theorem spec_prNullity.ev (m : List Nat) (hm : ∀ x ∈ m, x < 2 ^ 62) (hl : m.length ≤ 1000) : Ev (fun k => spec_prNullity.f k (ints m)) (nulMap m) := by
  have h := spec_prNullity.loop m hm hl m.length 0 [] (by omega) (by omega) rfl
  refine Ev.congr (f := fun k => spec_prNullity.l0 k (ints m) (ints []) (ints m) (m.length : Int) ((0 : Nat) : Int)) (fun k => ?_) h
  unfold spec_prNullity.f
  rw [ints_length]
  rfl

/-! spec_prOne -/
theorem spec_prOne.loop (n : Nat) (hn : n ≤ 62) (d : Nat) : ∀ (i : Nat) (o : List Int), i + d = n → o.length = i → Ev (fun k => spec_prOne.l0 k (n : Int) o (i : Int)) (o ++ (List.range' i d).map fun j => ((2 ^ j : Nat) : Int)) := by
  induction d with
  | zero =>
    intro i o h hl
    refine now fun k => ?_
    simp only [spec_prOne.l0]
    rw [if_neg (by omega)]
    simp
  | succ d ih =>
    intro i o h hl
    have ih' := ih (i + 1) (o ++ [((2 ^ i : Nat) : Int)]) (by omega) (by simp; omega)
    rw [List.append_assoc] at ih'
    rw [List.range'_succ, List.map_cons]
    refine Ev.step (f := fun k => spec_prOne.l0 k (n : Int) (o ++ [((2 ^ i : Nat) : Int)]) ((i + 1 : Nat) : Int)) (fun k => ?_) ih'
    simp only [spec_prOne.l0]
    rw [if_pos (by omega), if_pos (by omega), if_pos (by omega), shl_one (by omega) (by omega), Int.toNat_natCast, wrap_succ i (by omega)]
theorem spec_prOne.ev (n : Nat) (hn : n ≤ 62) : Ev (fun k => spec_prOne.f k (n : Int)) (oneMap n) := by
  have := spec_prOne.loop n hn n 0 [] (by omega) rfl
  rw [List.nil_append] at this
  exact this

/-! spec_prApply -/
theorem spec_prApply.loop (m : List Int) (s : Int) (n : Nat) (hn : n ≤ 62) (hm : ∀ x ∈ m, 0 ≤ x ∧ x < 2 ^ n) (h0 : 0 ≤ s) (h1 : s < 2 ^ 63) (hl : m.length < 4611686018427387904) (d : Nat) :
    ∀ (i : Nat) (o : Int), m.length - i = d → i ≤ m.length → 0 ≤ o → o < 2 ^ n → Ev (fun k => spec_prApply.l0 k s o m (m.length : Int) (i : Int)) (applyGo s o i (m.drop i)) := by
  have hp := pow_le63 (n := n) (by omega)
  induction d with
  | zero =>
    intro i o hd hi ho0 ho1
    refine now fun k => ?_
    simp only [spec_prApply.l0]
    rw [if_neg (by omega), List.drop_eq_nil_of_le (by omega)]
    rfl
  | succ d ih =>
    intro i o hd hi ho0 ho1
    have hlt : i < m.length := by omega
    have hx := hm m[i] (List.getElem_mem _)
    have hin := spec_grIn.eq s (i : Int) h0 h1 (by omega)
    rw [drop_cons m i hlt, applyGo]
    cases e : bit s (i : Int)
    · refine Ev.step (f := fun k => spec_prApply.l0 k s o m (m.length : Int) ((i + 1 : Nat) : Int)) (fun k => ?_) (by simpa using ih (i + 1) o (by omega) (by omega) ho0 ho1)
      simp only [spec_prApply.l0]
      rw [if_pos (by omega), if_pos (by omega), if_pos (by omega), hin, Option.bind_some, e, wrap_succ i (by omega)]
      rfl
    · refine Ev.step (f := fun k => spec_prApply.l0 k s ((o.toNat ^^^ m[i].toNat : Nat) : Int) m (m.length : Int) ((i + 1 : Nat) : Int)) (fun k => ?_) (by simpa using ih (i + 1) _ (by omega) (by omega) (by omega) (xor_lt ho1 hx.2 ho0 hx.1))
      simp only [spec_prApply.l0]
      rw [if_pos (by omega), if_pos (by omega), if_pos (by omega), hin, Option.bind_some, e, if_pos rfl, rd_get m i hlt, xor_eq ho0 (by omega) hx.1 (by omega), wrap_succ i (by omega)]
theorem spec_prApply.ev (m : List Int) (s : Int) (n : Nat) (hn : n ≤ 62) (hm : ∀ x ∈ m, 0 ≤ x ∧ x < 2 ^ n) (h0 : 0 ≤ s) (h1 : s < 2 ^ 63) (hl : m.length < 4611686018427387904) : Ev (fun k => spec_prApply.f k m s) (applyMap m s) :=
  spec_prApply.loop m s n hn hm h0 h1 hl m.length 0 0 (by omega) (by omega) (by omega) (Int.pow_pos (by decide))

/-! spec_prCompose -/
theorem spec_prCompose.loop (a b : List Int) (n : Nat) (hn : n ≤ 62) (ha : ∀ x ∈ a, 0 ≤ x ∧ x < 2 ^ n) (hb : ∀ x ∈ b, 0 ≤ x ∧ x < 2 ^ n) (hla : a.length < 4611686018427387904) (hl : b.length ≤ 1048576) (d : Nat) :
    ∀ (i : Nat) (o : List Int), b.length - i = d → i ≤ b.length → o.length = i → Ev (fun k => spec_prCompose.l0 k a o b (b.length : Int) (i : Int)) (o ++ (b.drop i).map (applyMap a)) := by
  have h16 := pow_le63 (n := n) (by omega)
  induction d with
  | zero =>
    intro i o hd hi ho
    refine now fun k => ?_
    simp only [spec_prCompose.l0]
    rw [if_neg (by omega), List.drop_eq_nil_of_le (by omega), List.map_nil, List.append_nil]
  | succ d ih =>
    intro i o hd hi ho
    have hlt : i < b.length := by omega
    have hx := hb b[i] (List.getElem_mem _)
    rw [drop_cons b i hlt, List.map_cons]
    refine Ev.step (f := fun k => (spec_prApply.f k a b[i]).bind fun t => spec_prCompose.l0 k a (o ++ [t]) b (b.length : Int) ((i + 1 : Nat) : Int)) (fun k => ?_) (Ev.bind (spec_prApply.ev a b[i] n (by omega) ha hx.1 (by omega) hla) (by simpa using ih (i + 1) (o ++ [applyMap a b[i]]) (by omega) (by omega) (by simp [ho])))
    simp only [spec_prCompose.l0]
    rw [if_pos (by omega), if_pos (by omega), if_pos (by omega), rd_get b i hlt]
    simp only [if_pos (show o.length < 17592186044416 by omega), wrap_succ i (show i < 4611686018427387904 by omega)]
theorem spec_prCompose.evg (a b : List Int) (n : Nat) (hn : n ≤ 62) (ha : ∀ x ∈ a, 0 ≤ x ∧ x < 2 ^ n) (hb : ∀ x ∈ b, 0 ≤ x ∧ x < 2 ^ n) (hla : a.length < 4611686018427387904) (hl : b.length ≤ 1048576) : Ev (fun k => spec_prCompose.f k a b) (b.map (applyMap a)) := by
  have := spec_prCompose.loop a b n hn ha hb hla hl b.length 0 [] (by omega) (by omega) rfl
  rw [List.drop_zero, List.nil_append] at this
  exact this
theorem spec_prCompose.ev (a b : List Int) (n : Nat) (hn : n ≤ 16) (ha : ∀ x ∈ a, 0 ≤ x ∧ x < 2 ^ n) (hb : ∀ x ∈ b, 0 ≤ x ∧ x < 2 ^ n) (hla : a.length < 4611686018427387904) (hl : b.length ≤ 1048576) : Ev (fun k => spec_prCompose.f k a b) (b.map (applyMap a)) :=
  spec_prCompose.evg a b n (by omega) ha hb hla hl

/-! spec_l1Own -/
theorem spec_l1Own.eq (l : List Int) (h : l.length < 17592186044416) : spec_l1Own.f l = some l := by
  unfold spec_l1Own.f
  rw [Option.bind_some, if_pos (by simpa using h)]
  rfl

/-! spec_prAdd -/
theorem spec_prAdd.loop (a b : List Int) (n : Nat) (hn : n ≤ 62) (hab : a.length = b.length) (ha : ∀ x ∈ a, 0 ≤ x ∧ x < 2 ^ n) (hb : ∀ x ∈ b, 0 ≤ x ∧ x < 2 ^ n) (hl : a.length ≤ 1048576) (d : Nat) :
    ∀ (i : Nat) (o : List Int), a.length - i = d → i ≤ a.length → o = addTo i a b → Ev (fun k => spec_prAdd.l0 k b o (a.length : Int) (i : Int)) (addTo a.length a b) := by
  have hp := pow_le63 (n := n) (by omega)
  induction d with
  | zero =>
    intro i o hd hi ho
    refine now fun k => ?_
    simp only [spec_prAdd.l0]
    rw [if_neg (by omega), ho, show i = a.length by omega]
  | succ d ih =>
    intro i o hd hi ho
    have hlt : i < a.length := by omega
    have hltb : i < b.length := by omega
    have hx := ha a[i] (List.getElem_mem _)
    have hy := hb b[i] (List.getElem_mem _)
    have hol : o.length = a.length := by rw [ho, addTo_length a b i (by omega)]
    have hoi : o[i]'(by omega) = a[i] := by
      subst ho
      exact addTo_get a b i hlt hab
    refine Ev.step (f := fun k => spec_prAdd.l0 k b (o.set i ((a[i].toNat ^^^ b[i].toNat : Nat) : Int)) (a.length : Int) ((i + 1 : Nat) : Int)) (fun k => ?_) (ih (i + 1) _ (by omega) (by omega) ?_)
    · simp only [spec_prAdd.l0]
      rw [if_pos (by omega), if_pos (by omega), if_pos (by omega), if_pos (by omega), rd_get o i (by omega), rd_get b i hltb, hoi, xor_eq hx.1 (by omega) hy.1 (by omega), wrap_succ i (by omega)]
      rfl
    · rw [ho]
      exact addTo_succ a b i hlt hab
theorem spec_prAdd.ev (a b : List Int) (n : Nat) (hn : n ≤ 62) (hab : a.length = b.length) (ha : ∀ x ∈ a, 0 ≤ x ∧ x < 2 ^ n) (hb : ∀ x ∈ b, 0 ≤ x ∧ x < 2 ^ n) (hl : a.length ≤ 1048576) : Ev (fun k => spec_prAdd.f k a b) (addSets a b) := by
  have h := spec_prAdd.loop a b n hn hab ha hb hl a.length 0 a (by omega) (by omega) (addTo_zero a b).symm
  rw [addTo_all a b hab] at h
  refine Ev.congr (f := fun k => spec_prAdd.l0 k b a (a.length : Int) ((0 : Nat) : Int)) (fun k => ?_) h
  unfold spec_prAdd.f
  rw [spec_l1Own.eq a (by omega)]
  rfl

/-! spec_poDegree -/
theorem spec_poDegree.ev (x : Nat) (hx : x < 2 ^ 63) : Ev (fun k => spec_poDegree.f k (x : Int)) (pdeg x) := by
  obtain ⟨K, hK⟩ := spec_soTop.ev x hx
  refine ⟨K, fun k hk => ?_⟩
  have h1 : spec_soTop.f k (x : Int) = _ := hK k hk
  show spec_poDegree.f k (x : Int) = _
  unfold spec_poDegree.f
  rw [h1]
  rfl

/-! spec_prPoly -/
theorem spec_prPoly.loop (m : List Int) (hn : m.length ≤ 16) (hm : ∀ x ∈ m, 0 ≤ x ∧ x < 2 ^ m.length) (p : Nat) (hp : p < 2 ^ 62) (k : Nat) : ∀ (o : List Int), k ≤ 62 → o.length = m.length → (∀ x ∈ o, 0 ≤ x ∧ x < 2 ^ m.length) → Ev (fun n => spec_prPoly.l0 n m (p : Int) o ((k : Int) - 1)) (polyGo m p k o) := by
  induction k with
  | zero =>
    intro o hk hl ho
    refine now fun n => ?_
    simp only [spec_prPoly.l0]
    rw [if_neg (by omega)]
    rfl
  | succ k ih =>
    intro o hk hl ho
    have hh := spec_grIn.eq (p : Int) (k : Int) (by omega) (by omega) (by omega)
    rw [show bit (p : Int) (k : Int) = p.testBit k from rfl] at hh
    have hb := step_bounds m hm o (p.testBit k) hl
    have ih' := ih _ (by omega) hb.2.2 hb.2.1
    obtain ⟨K1, hK1⟩ := ev_and (spec_prCompose.ev m o m.length hn hm ho (by omega) (by omega)) (spec_prOne.ev m.length (by omega))
    have hlen : (o.map (applyMap m)).length = m.length := by rw [List.length_map, hl]
    cases e : p.testBit k
    · rw [e, if_neg (by decide)] at ih'
      obtain ⟨K2, hK2⟩ := ih'
      refine ⟨K1 + K2 + 1, fun n hnn => ?_⟩
      obtain ⟨j, rfl⟩ : ∃ j, n = j + 1 := ⟨n - 1, by omega⟩
      obtain ⟨c1, c2⟩ := hK1 j (by omega)
      have c3 := hK2 j (by omega)
      simp only [spec_prPoly.l0, polyGo]
      rw [if_pos (by omega), show ((k + 1 : Nat) : Int) - 1 = (k : Int) by omega, c1, Option.bind_some, hh, Option.bind_some, e, if_neg (by decide), if_neg (by decide), wrap_id (by omega) (by omega)]
      exact c3
    · rw [e, if_pos rfl] at ih'
      obtain ⟨K2, hK2⟩ := ih'
      obtain ⟨K3, hK3⟩ := spec_prAdd.ev (o.map (applyMap m)) (oneMap m.length) m.length (by omega) (by rw [hlen, oneMap_length]) hb.1 (oneMap_bounds m.length) (by omega)
      refine ⟨K1 + K2 + K3 + 1, fun n hnn => ?_⟩
      obtain ⟨j, rfl⟩ : ∃ j, n = j + 1 := ⟨n - 1, by omega⟩
      obtain ⟨c1, c2⟩ := hK1 j (by omega)
      have c3 := hK2 j (by omega)
      have c4 : spec_prAdd.f j (o.map (applyMap m)) (oneMap m.length) = _ := hK3 j (by omega)
      simp only [spec_prPoly.l0, polyGo]
      rw [if_pos (by omega), show ((k + 1 : Nat) : Int) - 1 = (k : Int) by omega, c1, Option.bind_some, hh, Option.bind_some, e, if_pos rfl, c2, Option.bind_some, c4, Option.bind_some, wrap_id (by omega) (by omega)]
      rw [if_pos rfl]
      exact c3
theorem spec_prPoly.ev (m : List Int) (hn : m.length ≤ 16) (hm : ∀ x ∈ m, 0 ≤ x ∧ x < 2 ^ m.length) (p : Nat) (hp : p < 2 ^ 62) : Ev (fun n => spec_prPoly.f n m (p : Int)) (polyMap m p) := by
  obtain ⟨K, hK⟩ := ev_and (spec_poDegree.ev p (by omega)) (spec_prPoly.loop m hn hm p hp (blen p) (List.replicate m.length 0) (blen_le hp) (by simp) (zeros_bounds _ _))
  refine ⟨K, fun n hnn => ?_⟩
  obtain ⟨c1, c2⟩ := hK n hnn
  show spec_prPoly.f n m (p : Int) = _
  unfold spec_prPoly.f
  rw [if_pos (by omega), if_pos (by omega), c1, Option.bind_some, Int.toNat_natCast]
  exact c2

/-! spec_grToggles -/
theorem spec_grToggles.eq (l : List Int) (own : Bool) (hG : GoodG l) (i : Nat) (hi : i < l.length) : spec_grToggles.f l own (i : Int) = some (togg l own i) := by
  have h16 := hG.top
  have hx := hG.sets (rd l (i : Int)) (rd_mem l _ (by omega) (by omega))
  have hp := pow16 hG.top
  unfold spec_grToggles.f togg
  cases own
  · rw [if_neg (by decide), if_pos (by omega), if_pos (by omega), if_neg (by decide)]
  · have h2 : (2 : Nat) ^ i < 2 ^ 63 := Nat.pow_lt_pow_right (by decide) (by omega)
    rw [if_pos rfl, if_pos (by omega), if_pos (by omega), if_pos rfl, shl_one (by omega) (by omega), Int.toNat_natCast, or_eq hx.1 (by omega) (Int.natCast_nonneg _) (by exact_mod_cast h2)]
    rfl

/-! spec_prMap -/
theorem spec_prMap.loop (l : List Int) (own : Bool) (hG : GoodG l) (d : Nat) :
    ∀ (i : Nat) (o : List Int), l.length - i = d → i ≤ l.length → o.length = i → Ev (fun k => spec_prMap.l0 k o (l.length : Int) (i : Int) l own) (o ++ (List.range' i d).map (togg l own)) := by
  have h16 := hG.top
  induction d with
  | zero =>
    intro i o hd hi ho
    refine now fun k => ?_
    simp only [spec_prMap.l0]
    rw [if_neg (by omega)]
    simp
  | succ d ih =>
    intro i o hd hi ho
    have hlt : i < l.length := by omega
    refine Ev.step (f := fun k => spec_prMap.l0 k (o ++ [togg l own i]) (l.length : Int) ((i + 1 : Nat) : Int) l own) (fun k => ?_) (by rw [List.range'_succ, List.map_cons]; simpa using ih (i + 1) (o ++ [togg l own i]) (by omega) (by omega) (by simp [ho]))
    simp only [spec_prMap.l0]
    rw [if_pos (by omega), spec_grToggles.eq l own hG i hlt, Option.bind_some, if_pos (by omega), wrap_succ i (by omega)]
theorem spec_prMap.ev (l : List Int) (own : Bool) (hG : GoodG l) : Ev (fun k => spec_prMap.f k l own) (toggles l own) :=
  spec_prMap.loop l own hG l.length 0 [] (by omega) (by omega) rfl

/-! spec_poFibonacci -/
theorem spec_poFibonacci.loop : ∀ (d i : Nat), i + d ≤ 60 → Ev (fun k => spec_poFibonacci.l0 k (d : Int) ((fibp i : Nat) : Int) ((fibp (i + 1) : Nat) : Int)) ((fibp (i + 1 + d) : Nat) : Int)
  | 0, i, h => by
    refine now fun k => ?_
    simp only [spec_poFibonacci.l0]
    rw [if_neg (by decide)]
  | d + 1, i, h => by
    have ih := spec_poFibonacci.loop d (i + 1) (by omega)
    have p1 : (2 : Nat) ^ (i + 1) ≤ 2 ^ 61 := Nat.pow_le_pow_right (by decide) (by omega)
    have p0 : (2 : Nat) ^ i ≤ 2 ^ 61 := Nat.pow_le_pow_right (by decide) (by omega)
    rw [show (2 : Nat) ^ 61 = 2305843009213693952 from rfl] at p0 p1
    have f0 := fibp_lt i
    have f1 := fibp_lt (i + 1)
    rw [show i + 1 + 1 + d = i + 1 + (d + 1) by omega] at ih
    refine Ev.step (f := fun k => spec_poFibonacci.l0 k (d : Int) ((fibp (i + 1) : Nat) : Int) ((fibp (i + 1 + 1) : Nat) : Int)) (fun k => ?_) ih
    simp only [spec_poFibonacci.l0]
    rw [if_pos (by omega), wrap_id (by omega) (by omega), show ((d + 1 : Nat) : Int) - 1 = (d : Int) by omega, wrap_id (by omega) (by omega), show ((fibp (i + 1) : Nat) : Int) * 2 = ((fibp (i + 1) * 2 : Nat) : Int) by omega, xor_nat _ _ (by omega) (by omega)]
    rfl
theorem spec_poFibonacci.ev (n : Nat) (h : n ≤ 50) : Ev (fun k => spec_poFibonacci.f k (n : Int)) ((fibp n : Nat) : Int) := by
  cases n with
  | zero =>
    refine ⟨1, fun k hk => ?_⟩
    obtain ⟨m, rfl⟩ : ∃ m, k = m + 1 := ⟨k - 1, by omega⟩
    rfl
  | succ n =>
    have ih := spec_poFibonacci.loop n 0 (by omega)
    rw [show 0 + 1 + n = n + 1 by omega] at ih
    refine Ev.step (f := fun k => spec_poFibonacci.l0 k (n : Int) ((fibp 0 : Nat) : Int) ((fibp (0 + 1) : Nat) : Int)) (fun k => ?_) ih
    show spec_poFibonacci.l0 (k + 1) ((n + 1 : Nat) : Int) 1 0 = _
    simp only [spec_poFibonacci.l0]
    rw [if_pos (by omega), wrap_id (by omega) (by omega), show ((n + 1 : Nat) : Int) - 1 = (n : Int) by omega, wrap_id (by omega) (by omega), show Go.bits .xor .i64 ((0 : Int) * 2) 1 = ((fibp (0 + 1) : Nat) : Int) from xor_nat 0 1 (by decide) (by decide)]
    rfl

/-! spec_PathProduct -/
def pathProd (l : List Int) (own : Bool) (a : Int) : Int × Bool := if (good l && (decide (1 ≤ a) && decide (a ≤ 40))) = true then (nulMap ((polyMap (toggles l own) (fibp (a.toNat + 1))).map Int.toNat), true) else (0, false)
theorem spec_PathProduct.ev (l : List Int) (own : Bool) (a : Int) (h : l.length < 4611686018427387904) : Ev (fun k => spec_PathProduct.f k l own a) (pathProd l own a) := by
  obtain ⟨K1, hK1⟩ := spec_grGood.ev l own h
  unfold pathProd
  cases e1 : good l
  · rw [Bool.false_and, if_neg (by decide)]
    refine ⟨K1 + 1, fun k hk => ?_⟩
    obtain ⟨j, rfl⟩ : ∃ j, k = j + 1 := ⟨k - 1, by omega⟩
    have c1 : spec_grGood.f (j + 1) l own = _ := hK1 (j + 1) (by omega)
    show spec_PathProduct.f (j + 1) l own a = _
    unfold spec_PathProduct.f
    rw [c1, Option.bind_some, e1, if_neg (by decide)]
    simp [spec_PathProduct.j0]
  · rw [Bool.true_and]
    cases e2 : (decide (1 ≤ a) && decide (a ≤ 40))
    · rw [if_neg (by decide)]
      refine ⟨K1 + 1, fun k hk => ?_⟩
      obtain ⟨j, rfl⟩ : ∃ j, k = j + 1 := ⟨k - 1, by omega⟩
      have c1 : spec_grGood.f (j + 1) l own = _ := hK1 (j + 1) (by omega)
      show spec_PathProduct.f (j + 1) l own a = _
      unfold spec_PathProduct.f
      rw [c1, Option.bind_some, e1, if_pos rfl, spec_l1In.eq, e2, Option.bind_some]
      simp [spec_PathProduct.j0]
    · rw [if_pos rfl]
      have h2 : 1 ≤ a ∧ a ≤ 40 := by simpa using e2
      obtain ⟨m, rfl⟩ := Int.eq_ofNat_of_zero_le (show 0 ≤ a by omega)
      have hG := (good_iff l).1 e1
      have h16 := hG.top
      have htb := toggles_bounds l own hG
      have htl := toggles_length l own
      have hb : ∀ x ∈ toggles l own, 0 ≤ x ∧ x < 2 ^ (toggles l own).length := by rw [htl]; exact htb
      have hf := fibp_lt41 (n := m) (by omega)
      have hpb := polyMap_bounds (toggles l own) hb (fibp (m + 1))
      have hpl := polyMap_length (toggles l own) hb (fibp (m + 1))
      obtain ⟨r, hr, hrb⟩ := ints_of _ hpb
      have hrl : r.length = l.length := by rw [← ints_length, ← hr, hpl, htl]
      have hp : (2 : Nat) ^ (toggles l own).length ≤ 2 ^ 16 := Nat.pow_le_pow_right (by decide) (by rw [htl]; exact h16)
      obtain ⟨K2, hK2⟩ := ev_and (spec_prMap.ev l own hG) (spec_poFibonacci.ev (m + 1) (by omega))
      obtain ⟨K3, hK3⟩ := ev_and (spec_prPoly.ev (toggles l own) (by rw [htl]; exact h16) hb (fibp (m + 1)) (by omega)) (spec_prNullity.ev r (fun x hx => by have := hrb x hx; omega) (by omega))
      refine ⟨K1 + K2 + K3 + 1, fun k hk => ?_⟩
      obtain ⟨j, rfl⟩ : ∃ j, k = j + 1 := ⟨k - 1, by omega⟩
      have c1 : spec_grGood.f (j + 1) l own = _ := hK1 (j + 1) (by omega)
      obtain ⟨c2, c3⟩ := hK2 j (by omega)
      obtain ⟨c4, c5⟩ := hK3 j (by omega)
      show spec_PathProduct.f (j + 1) l own (m : Int) = _
      unfold spec_PathProduct.f
      rw [c1, Option.bind_some, e1, if_pos rfl, spec_l1In.eq, e2, Option.bind_some]
      simp only [spec_PathProduct.j0, Bool.not_true, Bool.false_eq_true, if_false]
      rw [c2, Option.bind_some, wrap_succ m (by omega), c3, Option.bind_some, c4, Option.bind_some, hr, c5, Option.bind_some, Int.toNat_natCast, hr, ints_toNat]

/-! impl_has -/
theorem impl_has.eq (x i : Int) (hx : 0 ≤ x) (hx1 : x < 2 ^ 63) (hi : 0 ≤ i) : impl_has.f x i = some (bit x i) := by unfold impl_has.f; rw [if_pos hi, has_bit hx hx1 hi]

/-! impl_in -/
theorem impl_in.eq (x a b : Int) : impl_in.f x a b = some (decide (a ≤ x) && decide (x ≤ b)) := by
  unfold impl_in.f
  by_cases h : a ≤ x
  · rw [if_pos h]; simp [h]
  · rw [if_neg h]; simp [h]

/-! impl_isCount -/
theorem impl_isCount.eq (x : Int) : impl_isCount.f x = some (decide (1 ≤ x) && decide (x ≤ 16)) := by unfold impl_isCount.f; rw [impl_in.eq]; rfl

/-! impl_whole -/
theorem impl_whole.eq (n : Int) (h0 : 0 ≤ n) (h1 : n ≤ 62) : impl_whole.f n = some (2 ^ n.toNat - 1) := by unfold impl_whole.f; rw [if_pos h0, whole_eq h0 h1]

/-! impl_isGraph -/
theorem impl_isGraph.inner (l : List Int) (own : Bool) (hn : l.length ≤ 16) (i : Nat) (hi : i < l.length) (hbi : 0 ≤ l[i] ∧ l[i] < 2 ^ 63) (hb : ∀ j, (h : j < i) → 0 ≤ l[j] ∧ l[j] < 2 ^ 63) (r : Bool) (hr : Ev (fun k => impl_isGraph.l0 k (l.length : Int) l (l.length : Int) ((i + 1 : Nat) : Int) l own) r) (d : Nat) :
    ∀ j : Nat, i - j = d → j ≤ i → Ev (fun k => impl_isGraph.l1 k (l.length : Int) (i : Int) l[i] l (l.length : Int) (i : Int) (i : Int) (j : Int) l own) (((List.range' j (i - j)).all fun j => bit (l.getD i 0) (j : Int) == bit (l.getD j 0) (i : Int)) && r) := by
  induction d with
  | zero =>
    intro j hd hj
    refine Ev.step (f := fun k => impl_isGraph.l0 k (l.length : Int) l (l.length : Int) ((i + 1 : Nat) : Int) l own) (fun k => ?_) (by rw [hd]; simpa using hr)
    simp only [impl_isGraph.l1]
    rw [if_neg (by omega), wrap_succ i (by omega)]
  | succ d ih =>
    intro j hd hj
    have hlt : j < i := by omega
    have hbj := hb j hlt
    rw [hd, List.range'_succ, List.all_cons, Bool.and_assoc]
    have ih' := ih (j + 1) (by omega) (by omega)
    rw [show i - (j + 1) = d by omega] at ih'
    have h1 := impl_has.eq l[i] (j : Int) hbi.1 hbi.2 (by omega)
    have h2 := impl_has.eq l[j] (i : Int) hbj.1 hbj.2 (by omega)
    rw [getD_get l i hi, getD_get l j (by omega)]
    rw [getD_get l i hi] at ih'
    have step : ∀ k, impl_isGraph.l1 (k + 1) (l.length : Int) (i : Int) l[i] l (l.length : Int) (i : Int) (i : Int) (j : Int) l own = if (bit l[i] (j : Int) == bit l[j] (i : Int)) = true then impl_isGraph.l1 k (l.length : Int) (i : Int) l[i] l (l.length : Int) (i : Int) (i : Int) ((j + 1 : Nat) : Int) l own else some false := by
      intro k
      simp only [impl_isGraph.l1]
      rw [if_pos (by omega), h1, Option.bind_some, if_pos (by omega), if_pos (by omega), rd_get l j (by omega), h2, Option.bind_some, wrap_succ j (by omega)]
      cases bit l[i] (j : Int) <;> cases bit l[j] (i : Int) <;> rfl
    cases e : (bit l[i] (j : Int) == bit l[j] (i : Int))
    · rw [Bool.false_and]
      exact now fun k => by rw [step k, e]; rfl
    · rw [Bool.true_and]
      exact Ev.step (fun k => by rw [step k, e]; rfl) ih'
theorem impl_isGraph.outer (l : List Int) (own : Bool) (hn : l.length ≤ 16) (d : Nat) :
    ∀ i : Nat, l.length - i = d → i ≤ l.length → (∀ j, (h : j < i) → (hj : j < l.length) → 0 ≤ l[j] ∧ l[j] < 2 ^ l.length) → Ev (fun k => impl_isGraph.l0 k (l.length : Int) l (l.length : Int) (i : Int) l own) ((List.range' i (l.length - i)).all (okRow l)) := by
  induction d with
  | zero =>
    intro i hd hi _
    refine now fun k => ?_
    simp only [impl_isGraph.l0]
    rw [if_neg (by omega), hd]
    rfl
  | succ d ih =>
    intro i hd hi hb
    have hlt : i < l.length := by omega
    have h16 := pow16 hn
    rw [hd, List.range'_succ, List.all_cons]
    have hr : okRow l i = (inSet l.length l[i] && (!(bit l[i] (i : Int)) && (List.range' 0 i).all fun j => bit (l.getD i 0) (j : Int) == bit (l.getD j 0) (i : Int))) := by
      unfold okRow
      rw [getD_get l i hlt]
    have hin : impl_in.f l[i] 0 (2 ^ (l.length : Int).toNat - 1) = some (inSet l.length l[i]) := by
      rw [impl_in.eq, Int.toNat_natCast]
      unfold inSet
      congr 2
      rw [Bool.eq_iff_iff]
      simp only [decide_eq_true_eq]
      omega
    rw [hr]
    cases e1 : inSet l.length l[i]
    · rw [Bool.false_and, Bool.false_and]
      refine ⟨2, fun k hk => ?_⟩
      obtain ⟨m, rfl⟩ : ∃ m, k = m + 2 := ⟨k - 2, by omega⟩
      show impl_isGraph.l0 (m + 2) (l.length : Int) l (l.length : Int) (i : Int) l own = _
      simp only [impl_isGraph.l0]
      rw [if_pos (by omega), if_pos (by omega), if_pos (by omega), rd_get l i hlt, impl_whole.eq _ (by omega) (by omega), Option.bind_some, hin, Option.bind_some, e1, if_neg (by decide)]
      simp only [impl_isGraph.j1, if_true]
    · have hbi : 0 ≤ l[i] ∧ l[i] < 2 ^ l.length := by simpa [inSet] using e1
      have hbi' : 0 ≤ l[i] ∧ l[i] < 2 ^ 63 := by omega
      rw [Bool.true_and]
      have head : ∀ k, impl_isGraph.l0 (k + 2) (l.length : Int) l (l.length : Int) (i : Int) l own = if bit l[i] (i : Int) = true then some false else impl_isGraph.l1 k (l.length : Int) (i : Int) l[i] l (l.length : Int) (i : Int) (i : Int) ((0 : Nat) : Int) l own := by
        intro k
        simp only [impl_isGraph.l0]
        rw [if_pos (by omega), if_pos (by omega), if_pos (by omega), rd_get l i hlt, impl_whole.eq _ (by omega) (by omega), Option.bind_some, hin, Option.bind_some, e1, if_pos rfl, impl_has.eq l[i] (i : Int) hbi'.1 hbi'.2 (by omega), Option.bind_some]
        simp only [impl_isGraph.j1]
        rfl
      cases e2 : bit l[i] (i : Int)
      · rw [Bool.not_false, Bool.true_and]
        have ih' := ih (i + 1) (by omega) (by omega) (fun j h hj => by
          rcases Nat.lt_succ_iff_lt_or_eq.1 h with h | h
          · exact hb j h hj
          · subst h; exact hbi)
        rw [show l.length - (i + 1) = d by omega] at ih'
        obtain ⟨K, hK⟩ := impl_isGraph.inner l own hn i hlt hbi' (fun j h => by have := hb j h (by omega); omega) _ ih' i 0 (by omega) (by omega)
        rw [Nat.sub_zero] at hK
        refine ⟨K + 2, fun k hk => ?_⟩
        obtain ⟨m, rfl⟩ : ∃ m, k = m + 2 := ⟨k - 2, by omega⟩
        show impl_isGraph.l0 (m + 2) (l.length : Int) l (l.length : Int) (i : Int) l own = _
        rw [head m, e2, if_neg (by decide)]
        exact hK m (by omega)
      · rw [Bool.not_true, Bool.false_and, Bool.false_and]
        refine ⟨2, fun k hk => ?_⟩
        obtain ⟨m, rfl⟩ : ∃ m, k = m + 2 := ⟨k - 2, by omega⟩
        show impl_isGraph.l0 (m + 2) (l.length : Int) l (l.length : Int) (i : Int) l own = _
        rw [head m, e2, if_pos rfl]
theorem impl_isGraph.ev (l : List Int) (own : Bool) : Ev (fun k => impl_isGraph.f k l own) (good l) := by
  rw [good_rows]
  by_cases hn : 1 ≤ l.length ∧ l.length ≤ 16
  · have e1 : impl_isCount.f (l.length : Int) = some true := by rw [impl_isCount.eq, decide_eq_true (by omega), decide_eq_true (by omega)]; rfl
    rw [show (decide (1 ≤ l.length ∧ l.length ≤ 16)) = true from decide_eq_true hn, Bool.true_and]
    refine Ev.congr (f := fun k => impl_isGraph.l0 k (l.length : Int) l (l.length : Int) ((0 : Nat) : Int) l own) (fun k => ?_) (by simpa using impl_isGraph.outer l own hn.2 l.length 0 (by omega) (by omega) (fun j h => absurd h (by omega)))
    unfold impl_isGraph.f
    rw [e1, Option.bind_some, if_pos rfl]
    rfl
  · have e1 : impl_isCount.f (l.length : Int) = some false := by
      rw [impl_isCount.eq]
      congr 1
      rw [Bool.and_eq_false_iff, decide_eq_false_iff_not, decide_eq_false_iff_not]
      omega
    rw [show (decide (1 ≤ l.length ∧ l.length ≤ 16)) = false from decide_eq_false hn, Bool.false_and]
    refine always fun k => ?_
    unfold impl_isGraph.f
    rw [e1, Option.bind_some, if_neg (by decide)]

/-! impl_isSide -/
theorem impl_isSide.eq (a : Int) : impl_isSide.f a 1 = some (isSide a) := by
  unfold impl_isSide.f
  rw [impl_in.eq]
  rfl

/-! bits_Len64 -/
theorem bits_Len64.tab_rows : ∀ i, i < 256 → bt (⟨#[0, 1, 2, 2, 3, 3, 3, 3, 4, 4, 4, 4, 4, 4, 4, 4, 5, 5, 5, 5, 5, 5, 5, 5, 5, 5, 5, 5, 5, 5, 5, 5, 6, 6, 6, 6, 6, 6, 6, 6, 6, 6, 6, 6, 6, 6, 6, 6, 6, 6, 6, 6, 6, 6, 6, 6, 6, 6, 6, 6, 6, 6, 6, 6, 7, 7, 7, 7, 7, 7, 7, 7, 7, 7, 7, 7, 7, 7, 7, 7, 7, 7, 7, 7, 7, 7, 7, 7, 7, 7, 7, 7, 7, 7, 7, 7, 7, 7, 7, 7, 7, 7, 7, 7, 7, 7, 7, 7, 7, 7, 7, 7, 7, 7, 7, 7, 7, 7, 7, 7, 7, 7, 7, 7, 7, 7, 7, 7, 8, 8, 8, 8, 8, 8, 8, 8, 8, 8, 8, 8, 8, 8, 8, 8, 8, 8, 8, 8, 8, 8, 8, 8, 8, 8, 8, 8, 8, 8, 8, 8, 8, 8, 8, 8, 8, 8, 8, 8, 8, 8, 8, 8, 8, 8, 8, 8, 8, 8, 8, 8, 8, 8, 8, 8, 8, 8, 8, 8, 8, 8, 8, 8, 8, 8, 8, 8, 8, 8, 8, 8, 8, 8, 8, 8, 8, 8, 8, 8, 8, 8, 8, 8, 8, 8, 8, 8, 8, 8, 8, 8, 8, 8, 8, 8, 8, 8, 8, 8, 8, 8, 8, 8, 8, 8, 8, 8, 8, 8, 8, 8, 8, 8, 8, 8, 8, 8, 8, 8, 8, 8, 8, 8, 8, 8, 8, 8]⟩ : ByteArray) ((i : Nat) : Int) = ((blk 8 i : Nat) : Int) := by decide +kernel
theorem bits_Len64.tab (i : Nat) (h : i < 256) : bt (⟨#[0, 1, 2, 2, 3, 3, 3, 3, 4, 4, 4, 4, 4, 4, 4, 4, 5, 5, 5, 5, 5, 5, 5, 5, 5, 5, 5, 5, 5, 5, 5, 5, 6, 6, 6, 6, 6, 6, 6, 6, 6, 6, 6, 6, 6, 6, 6, 6, 6, 6, 6, 6, 6, 6, 6, 6, 6, 6, 6, 6, 6, 6, 6, 6, 7, 7, 7, 7, 7, 7, 7, 7, 7, 7, 7, 7, 7, 7, 7, 7, 7, 7, 7, 7, 7, 7, 7, 7, 7, 7, 7, 7, 7, 7, 7, 7, 7, 7, 7, 7, 7, 7, 7, 7, 7, 7, 7, 7, 7, 7, 7, 7, 7, 7, 7, 7, 7, 7, 7, 7, 7, 7, 7, 7, 7, 7, 7, 7, 8, 8, 8, 8, 8, 8, 8, 8, 8, 8, 8, 8, 8, 8, 8, 8, 8, 8, 8, 8, 8, 8, 8, 8, 8, 8, 8, 8, 8, 8, 8, 8, 8, 8, 8, 8, 8, 8, 8, 8, 8, 8, 8, 8, 8, 8, 8, 8, 8, 8, 8, 8, 8, 8, 8, 8, 8, 8, 8, 8, 8, 8, 8, 8, 8, 8, 8, 8, 8, 8, 8, 8, 8, 8, 8, 8, 8, 8, 8, 8, 8, 8, 8, 8, 8, 8, 8, 8, 8, 8, 8, 8, 8, 8, 8, 8, 8, 8, 8, 8, 8, 8, 8, 8, 8, 8, 8, 8, 8, 8, 8, 8, 8, 8, 8, 8, 8, 8, 8, 8, 8, 8, 8, 8, 8, 8, 8, 8]⟩ : ByteArray) (i : Int) = ((blen i : Nat) : Int) := by rw [bits_Len64.tab_rows i h, blen_blk 8 i h]
/-- The steps behind the first test, with a table. -/
def bits_Len64.body (T : ByteArray) (x0 x2 : Int) : Option Int := if x0 ≥ 65536 then (if (x0 / 65536) ≥ 256 then (if 0 ≤ (((x0 / 65536) / 256) % 256) then (if (((x0 / 65536) / 256) % 256) < 256 then (some (wrap64 ((wrap64 ((wrap64 (x2 + 16)) + 8)) + (wrap64 (bt T (((x0 / 65536) / 256) % 256)))))) else (none)) else (none)) else (if 0 ≤ ((x0 / 65536) % 256) then (if ((x0 / 65536) % 256) < 256 then (some (wrap64 ((wrap64 (x2 + 16)) + (wrap64 (bt T ((x0 / 65536) % 256)))))) else (none)) else (none))) else (if x0 ≥ 256 then (if 0 ≤ ((x0 / 256) % 256) then (if ((x0 / 256) % 256) < 256 then (some (wrap64 ((wrap64 (x2 + 8)) + (wrap64 (bt T ((x0 / 256) % 256)))))) else (none)) else (none)) else (if 0 ≤ ((x0) % 256) then (if ((x0) % 256) < 256 then (some (wrap64 (x2 + (wrap64 (bt T ((x0) % 256)))))) else (none)) else (none)))
theorem bits_Len64.steps (T : ByteArray) (tab : ∀ i : Nat, i < 256 → bt T (i : Int) = ((blen i : Nat) : Int)) (n : Nat) (x : Nat) (hn : n ≤ 32) (hx : x < 4294967296) : bits_Len64.body T (x : Int) (n : Int) = some (((n + blen x : Nat) : Int)) := by
  have tb : ∀ (y : Nat), y < 256 → ((y : Int) % 256) = ((y : Nat) : Int) := fun y h => by omega
  have bl : ∀ (y : Nat), y < 256 → blen y ≤ 8 := fun y h => blen_le h
  unfold bits_Len64.body
  by_cases e1 : x ≥ 65536
  · rw [if_pos (by omega)]
    by_cases e2 : x / 65536 ≥ 256
    · have hb := blen_shift 24 x (by rw [show (2 : Nat) ^ 24 = 16777216 from rfl]; omega)
      rw [show (2 : Nat) ^ 24 = 16777216 from rfl] at hb
      have hl := bl (x / 16777216) (by omega)
      have he : ((x : Int) / 65536) / 256 % 256 = ((x / 16777216 : Nat) : Int) := by omega
      rw [if_pos (by omega), if_pos (by omega), if_pos (by omega), he, tab _ (by omega), wrap_id (x := (n : Int) + 16) (by omega) (by omega), wrap_id (x := (n : Int) + 16 + 8) (by omega) (by omega), wrap_id (x := ((blen (x / 16777216) : Nat) : Int)) (by omega) (by omega), wrap_id (by omega) (by omega), hb]
      congr 1
      omega
    · have hb := blen_shift 16 x (by rw [show (2 : Nat) ^ 16 = 65536 from rfl]; omega)
      rw [show (2 : Nat) ^ 16 = 65536 from rfl] at hb
      have hl := bl (x / 65536) (by omega)
      have he : ((x : Int) / 65536) % 256 = ((x / 65536 : Nat) : Int) := by omega
      rw [if_neg (by omega), if_pos (by omega), if_pos (by omega), he, tab _ (by omega), wrap_id (x := (n : Int) + 16) (by omega) (by omega), wrap_id (x := ((blen (x / 65536) : Nat) : Int)) (by omega) (by omega), wrap_id (by omega) (by omega), hb]
      congr 1
      omega
  · rw [if_neg (by omega)]
    by_cases e2 : x ≥ 256
    · have hb := blen_shift 8 x (by rw [show (2 : Nat) ^ 8 = 256 from rfl]; omega)
      rw [show (2 : Nat) ^ 8 = 256 from rfl] at hb
      have hl := bl (x / 256) (by omega)
      have he : ((x : Int) / 256) % 256 = ((x / 256 : Nat) : Int) := by omega
      rw [if_pos (by omega), if_pos (by omega), if_pos (by omega), he, tab _ (by omega), wrap_id (x := (n : Int) + 8) (by omega) (by omega), wrap_id (x := ((blen (x / 256) : Nat) : Int)) (by omega) (by omega), wrap_id (by omega) (by omega), hb]
      congr 1
      omega
    · have hl := bl x (by omega)
      have he : (x : Int) % 256 = (x : Int) := by omega
      rw [if_neg (by omega), if_pos (by omega), if_pos (by omega), he, tab _ (by omega), wrap_id (x := ((blen x : Nat) : Int)) (by omega) (by omega), wrap_id (by omega) (by omega)]
      congr 1
theorem bits_Len64.tail (k n : Nat) (x : Nat) (hn : n ≤ 32) (hx : x < 4294967296) : bits_Len64.j0 (k + 1) (x : Int) (n : Int) = some (((n + blen x : Nat) : Int)) :=
  bits_Len64.steps (⟨#[0, 1, 2, 2, 3, 3, 3, 3, 4, 4, 4, 4, 4, 4, 4, 4, 5, 5, 5, 5, 5, 5, 5, 5, 5, 5, 5, 5, 5, 5, 5, 5, 6, 6, 6, 6, 6, 6, 6, 6, 6, 6, 6, 6, 6, 6, 6, 6, 6, 6, 6, 6, 6, 6, 6, 6, 6, 6, 6, 6, 6, 6, 6, 6, 7, 7, 7, 7, 7, 7, 7, 7, 7, 7, 7, 7, 7, 7, 7, 7, 7, 7, 7, 7, 7, 7, 7, 7, 7, 7, 7, 7, 7, 7, 7, 7, 7, 7, 7, 7, 7, 7, 7, 7, 7, 7, 7, 7, 7, 7, 7, 7, 7, 7, 7, 7, 7, 7, 7, 7, 7, 7, 7, 7, 7, 7, 7, 7, 8, 8, 8, 8, 8, 8, 8, 8, 8, 8, 8, 8, 8, 8, 8, 8, 8, 8, 8, 8, 8, 8, 8, 8, 8, 8, 8, 8, 8, 8, 8, 8, 8, 8, 8, 8, 8, 8, 8, 8, 8, 8, 8, 8, 8, 8, 8, 8, 8, 8, 8, 8, 8, 8, 8, 8, 8, 8, 8, 8, 8, 8, 8, 8, 8, 8, 8, 8, 8, 8, 8, 8, 8, 8, 8, 8, 8, 8, 8, 8, 8, 8, 8, 8, 8, 8, 8, 8, 8, 8, 8, 8, 8, 8, 8, 8, 8, 8, 8, 8, 8, 8, 8, 8, 8, 8, 8, 8, 8, 8, 8, 8, 8, 8, 8, 8, 8, 8, 8, 8, 8, 8, 8, 8, 8, 8, 8, 8]⟩ : ByteArray) bits_Len64.tab n x hn hx
theorem bits_Len64.eq (k : Nat) (x : Nat) (hx : x < 2 ^ 64) : bits_Len64.f (k + 1) (x : Int) = some ((blen x : Nat) : Int) := by
  unfold bits_Len64.f
  by_cases e : x ≥ 4294967296
  · have hb := blen_shift 32 x (by rw [show (2 : Nat) ^ 32 = 4294967296 from rfl]; omega)
    rw [show (2 : Nat) ^ 32 = 4294967296 from rfl] at hb
    have := bits_Len64.tail k 32 (x / 4294967296) (by omega) (by omega)
    rw [if_pos (by omega), show (x : Int) / 4294967296 = ((x / 4294967296 : Nat) : Int) by omega]
    refine this.trans ?_
    rw [hb, Nat.add_comm]
  · have := bits_Len64.tail k 0 x (by omega) (by omega)
    rw [if_neg (by omega)]
    refine this.trans ?_
    rw [Nat.zero_add]

/-! bits_Len -/
theorem bits_Len.eq (k : Nat) (x : Nat) (hx : x < 2 ^ 64) : bits_Len.f (k + 1) (x : Int) = some ((blen x : Nat) : Int) := by
  unfold bits_Len.f
  rw [bits_Len64.eq k x hx]
  rfl

/-! impl_top -/
theorem impl_top.eq (k : Nat) (x : Nat) (hx : x < 2 ^ 63) : impl_top.f (k + 1) (x : Int) = some (pdeg x) := by
  have e : IntKind.u64.wrap (x : Int) = (x : Int) := by
    show (x : Int) % _ = _
    exact Int.emod_eq_of_lt (by omega) (by show (x : Int) < 18446744073709551616; omega)
  have hb : blen x ≤ 63 := blen_le hx
  unfold impl_top.f
  rw [e, bits_Len.eq k x (by omega), Option.bind_some, wrap_id (by omega) (by omega)]
  rfl
end Go.Proofs.Ytokgnjbnckmndaa.Pure
