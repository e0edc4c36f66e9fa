/- What the functions of FnExactComposeMaps compute, in plain words. -/
import Derived.Test.YtijccendobcndaaPFnExactComposeMapsx5
import Derived.Test.YtijccendobcndaaM1
import Derived.Test.YtijccendobcndaaM2
namespace Go.Proofs.Ytijccendobcndaa.Pure
open Go.RowKit Go.Proofs.Ytijccendobcndaa.PFnExactComposeMaps Go.Proofs.YtijccendobcndaaW.PrintWords Go.Proofs.YtijccendobcndaaW.PrintLast Go.Proofs.YtijccendobcndaaW.PrintMore Go.Proofs.YtijccendobcndaaM
set_option linter.unusedVariables false
set_option linter.unusedSimpArgs false
/-! laws_toIntS -/
theorem laws_toIntS.loop (a : List Int) (h : a.length < 4611686018427387904) (d : Nat) : ∀ (i : Nat) (o : List Int), a.length - i = d → i ≤ a.length → o.length = a.length → o.take i = a.take i → Ev (fun k => laws_toIntS.l0 k a o (i : Int)) a := by
  induction d with
  | zero =>
    intro i o hd hi ho ht
    have e : o = a := by
      have : i = a.length := by omega
      subst this
      rw [List.take_length, List.take_of_length_le (by omega)] at ht
      exact ht
    subst e
    refine now fun k => ?_
    simp only [laws_toIntS.l0]
    rw [if_neg (by omega)]
  | succ d ih =>
    intro i o hd hi ho ht
    have hlt : i < a.length := by omega
    refine Ev.step (f := fun k => laws_toIntS.l0 k a (o.set i a[i]) ((i + 1 : Nat) : Int)) (fun k => ?_) (ih (i + 1) (o.set i a[i]) (by omega) (by omega) (by rw [List.length_set]; exact ho) ?_)
    · simp only [laws_toIntS.l0]
      rw [if_pos (by omega), if_pos (by omega), if_pos (by omega), rd_get a i hlt, wrap_succ i (by omega)]
      rfl
    · rw [List.take_succ_eq_append_getElem (by simp [ho, hlt]), List.take_succ_eq_append_getElem hlt]
      simp [List.take_set_of_le, ht]
theorem laws_toIntS.ev (a : List Int) (h : a.length ≤ 35184372088832) : Ev (fun k => laws_toIntS.f k a) a := by
  refine Ev.congr (f := fun k => laws_toIntS.l0 k a (List.replicate a.length 0) ((0 : Nat) : Int)) (fun k => ?_) (laws_toIntS.loop a (by omega) a.length 0 _ (by omega) (by omega) (by simp) (by simp))
  unfold laws_toIntS.f
  rw [if_pos (by omega), if_pos (by omega)]
  rfl

/-! laws_eqIntS -/
theorem laws_eqIntS.loop (a b : List Int) (hl : a.length = b.length) (h : a.length < 4611686018427387904) (d : Nat) : ∀ i : Nat, a.length - i = d → i ≤ a.length → Ev (fun k => laws_eqIntS.l0 k a b (i : Int)) (decide (a.drop i = b.drop i)) := by
  induction d with
  | zero =>
    intro i hd hi
    refine now fun k => ?_
    simp only [laws_eqIntS.l0]
    rw [if_neg (by omega), List.drop_eq_nil_of_le (by omega), List.drop_eq_nil_of_le (by omega)]
    rfl
  | succ d ih =>
    intro i hd hi
    have hlt : i < a.length := by omega
    have hltb : i < b.length := by omega
    rw [drop_cons a i hlt, drop_cons b i hltb]
    by_cases e : a[i] = b[i]
    · have := ih (i + 1) (by omega) (by omega)
      refine Ev.step (f := fun k => laws_eqIntS.l0 k a b ((i + 1 : Nat) : Int)) (fun k => ?_) (by rw [show decide (a[i] :: a.drop (i + 1) = b[i] :: b.drop (i + 1)) = decide (a.drop (i + 1) = b.drop (i + 1)) by simp only [List.cons.injEq, e, true_and]]; exact this)
      simp only [laws_eqIntS.l0]
      rw [if_pos (by omega), if_pos (by omega), if_pos (by omega), rd_get a i hlt, rd_get b i hltb, if_pos e, wrap_succ i (by omega)]
    · refine now fun k => ?_
      simp only [laws_eqIntS.l0]
      rw [if_pos (by omega), if_pos (by omega), if_pos (by omega), rd_get a i hlt, rd_get b i hltb, if_neg e, show decide (a[i] :: a.drop (i + 1) = b[i] :: b.drop (i + 1)) = false by simp only [List.cons.injEq, e, false_and, decide_false]]
theorem laws_eqIntS.ev (a b : List Int) (h : a.length < 4611686018427387904) : Ev (fun k => laws_eqIntS.f k a b) (decide (a = b)) := by
  by_cases hl : a.length = b.length
  · have := laws_eqIntS.loop a b hl h a.length 0 (by omega) (by omega)
    refine Ev.congr (f := fun k => laws_eqIntS.l0 k a b ((0 : Nat) : Int)) (fun k => ?_) (by simpa using this)
    unfold laws_eqIntS.f
    rw [if_pos (by omega)]
    rfl
  · refine always fun k => ?_
    unfold laws_eqIntS.f
    rw [if_neg (by omega)]
    have : ¬ a = b := fun e => hl (by rw [e])
    simp [this]

/-! laws_markIntS -/
theorem laws_markIntS.loop (n : Nat) (a : Int) (h0 : 0 ≤ a) (h1 : a + n < 4611686018427387904) (d : Nat) : ∀ (i : Nat) (o : List Int), o.length = n → n - i = d → i ≤ n → o.take i = (List.range i).map (fun (j : Nat) => a + (j : Int)) → Ev (fun k => laws_markIntS.l0 k o (a + i) (i : Int)) (a + n, marks n a) := by
  induction d with
  | zero =>
    intro i o ho hd hi ht
    refine now fun k => ?_
    have e : i = n := by omega
    subst e
    simp only [laws_markIntS.l0]
    rw [if_neg (by omega)]
    rw [List.take_of_length_le (by omega)] at ht
    rw [ht]
    rfl
  | succ d ih =>
    intro i o ho hd hi ht
    refine Ev.step (f := fun k => laws_markIntS.l0 k (o.set i (a + i)) (a + ((i + 1 : Nat) : Int)) ((i + 1 : Nat) : Int)) (fun k => ?_) (ih (i + 1) (o.set i (a + i)) (by simp [ho]) (by omega) (by omega) ?_)
    · simp only [laws_markIntS.l0]
      rw [if_pos (by omega), if_pos (by omega), wrap_succ i (by omega), wrap_id (by omega) (by omega), show a + (i : Int) + 1 = a + ((i + 1 : Nat) : Int) by omega]
      rfl
    · rw [List.take_succ_eq_append_getElem (by simp; omega), List.range_succ, List.map_append]
      simp [List.take_set_of_le, ht]
theorem laws_markIntS.ev (l : List Int) (a : Int) (h0 : 0 ≤ a) (h1 : a + l.length < 4611686018427387904) : Ev (fun k => laws_markIntS.f k l a) (a + l.length, marks l.length a) := by
  refine Ev.congr (f := fun k => laws_markIntS.l0 k l (a + ((0 : Nat) : Int)) ((0 : Nat) : Int)) (fun k => ?_) (laws_markIntS.loop l.length a h0 h1 l.length 0 l rfl (by omega) (by omega) (by simp))
  unfold laws_markIntS.f
  congr 1
  omega

/-! laws_heldIntS -/
theorem laws_heldIntS.loop (n : Nat) (a : Int) (h0 : 0 ≤ a) (h1 : a + n < 4611686018427387904) (d : Nat) : ∀ i : Nat, n - i = d → i ≤ n → Ev (fun k => laws_heldIntS.l0 k (marks n a) (a + i) (i : Int)) (a + n) := by
  have hl : (marks n a).length = n := by simp [marks]
  induction d with
  | zero =>
    intro i hd hi
    refine now fun k => ?_
    simp only [laws_heldIntS.l0]
    rw [if_neg (by omega), show i = n by omega]
  | succ d ih =>
    intro i hd hi
    refine Ev.step (f := fun k => laws_heldIntS.l0 k (marks n a) (a + ((i + 1 : Nat) : Int)) ((i + 1 : Nat) : Int)) (fun k => ?_) (ih (i + 1) (by omega) (by omega))
    simp only [laws_heldIntS.l0]
    rw [if_pos (by omega), if_pos (by omega), rd_get _ i (by omega), if_pos (by simp [marks]), wrap_succ i (by omega), wrap_id (by omega) (by omega), show a + (i : Int) + 1 = a + ((i + 1 : Nat) : Int) by omega]
theorem laws_heldIntS.ev (n : Nat) (a : Int) (h0 : 0 ≤ a) (h1 : a + n < 4611686018427387904) : Ev (fun k => laws_heldIntS.f k (marks n a) a) (a + n) := by
  refine Ev.congr (f := fun k => laws_heldIntS.l0 k (marks n a) (a + ((0 : Nat) : Int)) ((0 : Nat) : Int)) (fun k => ?_) (laws_heldIntS.loop n a h0 h1 n 0 (by omega) (by omega))
  unfold laws_heldIntS.f
  congr 1
  omega

/-! spec_l1In -/
theorem spec_l1In.eq (x a b : Int) : spec_l1In.f x a b = some (decide (a ≤ x) && decide (x ≤ b)) := by
  unfold spec_l1In.f
  by_cases h : a ≤ x
  · rw [if_pos (by omega)]; simp [h]
  · rw [if_neg (by omega)]; simp [h]

/-! spec_grSize -/
theorem spec_grSize.eq (x : Int) : spec_grSize.f x = some (decide (1 ≤ x) && decide (x ≤ 16)) := by unfold spec_grSize.f; rw [spec_l1In.eq]; rfl

/-! spec_l1All -/
theorem spec_l1All.loop (l : List Int) (a b : Int) (h : l.length < 4611686018427387904) (d : Nat) : ∀ i : Nat, l.length - i = d → i ≤ l.length → Ev (fun k => spec_l1All.l0 k a b l (l.length : Int) (i : Int)) ((l.drop i).all fun x => decide (a ≤ x) && decide (x ≤ b)) := by
  induction d with
  | zero =>
    intro i hd hi
    refine now fun k => ?_
    simp only [spec_l1All.l0]
    rw [if_neg (by omega), List.drop_eq_nil_of_le (by omega)]
    rfl
  | succ d ih =>
    intro i hd hi
    have hlt : i < l.length := by omega
    rw [drop_cons l i hlt, List.all_cons]
    by_cases e : (decide (a ≤ l[i]) && decide (l[i] ≤ b)) = true
    · refine Ev.step (f := fun k => spec_l1All.l0 k a b l (l.length : Int) ((i + 1 : Nat) : Int)) (fun k => ?_) (by rw [e, Bool.true_and]; exact ih (i + 1) (by omega) (by omega))
      simp only [spec_l1All.l0]
      rw [if_pos (by omega), if_pos (by omega), if_pos (by omega), rd_get l i hlt, spec_l1In.eq, e, wrap_succ i (by omega)]
      rfl
    · refine now fun k => ?_
      simp only [spec_l1All.l0]
      replace e := Bool.eq_false_iff.mpr e
      rw [if_pos (by omega), if_pos (by omega), if_pos (by omega), rd_get l i hlt, spec_l1In.eq, e]
      rfl
theorem spec_l1All.ev (l : List Int) (a b : Int) (h : l.length < 4611686018427387904) : Ev (fun k => spec_l1All.f k l a b) (l.all fun x => decide (a ≤ x) && decide (x ≤ b)) :=
  spec_l1All.loop l a b h l.length 0 (by omega) (by omega)

/-! spec_prGood -/
theorem spec_prGood.ev (m : List Int) (h : m.length < 4611686018427387904) : Ev (fun k => spec_prGood.f k m) (goodMap m) := by
  unfold goodMap
  by_cases hn : 1 ≤ m.length ∧ m.length ≤ 16
  · have e1 : spec_grSize.f (m.length : Int) = some true := by rw [spec_grSize.eq, decide_eq_true (by omega), decide_eq_true (by omega)]; rfl
    obtain ⟨K, hK⟩ := spec_l1All.ev m 0 (wrap64 ((shl .i64 1 (m.length : Int)) - 1)) h
    refine ⟨K, fun k hk => ?_⟩
    have h1 : spec_l1All.f k m 0 (wrap64 ((shl .i64 1 (m.length : Int)) - 1)) = _ := hK k hk
    show spec_prGood.f k m = _
    unfold spec_prGood.f
    rw [e1, Option.bind_some, if_pos rfl, h1, Option.bind_some, decide_eq_true hn, Bool.true_and, whole_eq (by omega) (by omega)]
    congr 2
    funext x
    rw [inSet_eq]
  · have e1 : spec_grSize.f (m.length : Int) = some false := by
      rw [spec_grSize.eq]
      congr 1
      rw [Bool.and_eq_false_iff, decide_eq_false_iff_not, decide_eq_false_iff_not]
      omega
    refine always fun k => ?_
    unfold spec_prGood.f
    rw [e1, Option.bind_some, if_neg (by decide), decide_eq_false hn, Bool.false_and]

/-! spec_grIn -/
theorem spec_grIn.eq (x i : Int) (hx : 0 ≤ x) (hx1 : x < 2 ^ 63) (hi : 0 ≤ i) : spec_grIn.f x i = some (bit x i) := by unfold spec_grIn.f; rw [if_pos hi, in_bit hx hx1 hi]

/-! spec_prApply -/
theorem spec_prApply.loop (m : List Int) (s : Int) (n : Nat) (hn : n ≤ 62) (hm : ∀ x ∈ m, 0 ≤ x ∧ x < 2 ^ n) (h0 : 0 ≤ s) (h1 : s < 2 ^ 63) (hl : m.length < 4611686018427387904) (d : Nat) :
    ∀ (i : Nat) (o : Int), m.length - i = d → i ≤ m.length → 0 ≤ o → o < 2 ^ n → Ev (fun k => spec_prApply.l0 k s o m (m.length : Int) (i : Int)) (applyGo s o i (m.drop i)) := by
  have hp := pow_le63 (n := n) (by omega)
  induction d with
  | zero =>
    intro i o hd hi ho0 ho1
    refine now fun k => ?_
    simp only [spec_prApply.l0]
    rw [if_neg (by omega), List.drop_eq_nil_of_le (by omega)]
    rfl
  | succ d ih =>
    intro i o hd hi ho0 ho1
    have hlt : i < m.length := by omega
    have hx := hm m[i] (List.getElem_mem _)
    have hin := spec_grIn.eq s (i : Int) h0 h1 (by omega)
    rw [drop_cons m i hlt, applyGo]
    cases e : bit s (i : Int)
    · refine Ev.step (f := fun k => spec_prApply.l0 k s o m (m.length : Int) ((i + 1 : Nat) : Int)) (fun k => ?_) (by simpa using ih (i + 1) o (by omega) (by omega) ho0 ho1)
      simp only [spec_prApply.l0]
      rw [if_pos (by omega), if_pos (by omega), if_pos (by omega), hin, Option.bind_some, e, wrap_succ i (by omega)]
      rfl
    · refine Ev.step (f := fun k => spec_prApply.l0 k s ((o.toNat ^^^ m[i].toNat : Nat) : Int) m (m.length : Int) ((i + 1 : Nat) : Int)) (fun k => ?_) (by simpa using ih (i + 1) _ (by omega) (by omega) (by omega) (xor_lt ho1 hx.2 ho0 hx.1))
      simp only [spec_prApply.l0]
      rw [if_pos (by omega), if_pos (by omega), if_pos (by omega), hin, Option.bind_some, e, if_pos rfl, rd_get m i hlt, xor_eq ho0 (by omega) hx.1 (by omega), wrap_succ i (by omega)]
theorem spec_prApply.ev (m : List Int) (s : Int) (n : Nat) (hn : n ≤ 62) (hm : ∀ x ∈ m, 0 ≤ x ∧ x < 2 ^ n) (h0 : 0 ≤ s) (h1 : s < 2 ^ 63) (hl : m.length < 4611686018427387904) : Ev (fun k => spec_prApply.f k m s) (applyMap m s) :=
  spec_prApply.loop m s n hn hm h0 h1 hl m.length 0 0 (by omega) (by omega) (by omega) (Int.pow_pos (by decide))

/-! spec_prCompose -/
theorem spec_prCompose.loop (a b : List Int) (n : Nat) (hn : n ≤ 16) (ha : ∀ x ∈ a, 0 ≤ x ∧ x < 2 ^ n) (hb : ∀ x ∈ b, 0 ≤ x ∧ x < 2 ^ n) (hla : a.length < 4611686018427387904) (hl : b.length ≤ 1048576) (d : Nat) :
    ∀ (i : Nat) (o : List Int), b.length - i = d → i ≤ b.length → o.length = i → Ev (fun k => spec_prCompose.l0 k a o b (b.length : Int) (i : Int)) (o ++ (b.drop i).map (applyMap a)) := by
  have h16 := pow16 hn
  induction d with
  | zero =>
    intro i o hd hi ho
    refine now fun k => ?_
    simp only [spec_prCompose.l0]
    rw [if_neg (by omega), List.drop_eq_nil_of_le (by omega), List.map_nil, List.append_nil]
  | succ d ih =>
    intro i o hd hi ho
    have hlt : i < b.length := by omega
    have hx := hb b[i] (List.getElem_mem _)
    rw [drop_cons b i hlt, List.map_cons]
    refine Ev.step (f := fun k => (spec_prApply.f k a b[i]).bind fun t => spec_prCompose.l0 k a (o ++ [t]) b (b.length : Int) ((i + 1 : Nat) : Int)) (fun k => ?_) (Ev.bind (spec_prApply.ev a b[i] n (by omega) ha hx.1 (by omega) hla) (by simpa using ih (i + 1) (o ++ [applyMap a b[i]]) (by omega) (by omega) (by simp [ho])))
    simp only [spec_prCompose.l0]
    rw [if_pos (by omega), if_pos (by omega), if_pos (by omega), rd_get b i hlt]
    simp only [if_pos (show o.length < 17592186044416 by omega), wrap_succ i (show i < 4611686018427387904 by omega)]
theorem spec_prCompose.ev (a b : List Int) (n : Nat) (hn : n ≤ 16) (ha : ∀ x ∈ a, 0 ≤ x ∧ x < 2 ^ n) (hb : ∀ x ∈ b, 0 ≤ x ∧ x < 2 ^ n) (hla : a.length < 4611686018427387904) (hl : b.length ≤ 1048576) : Ev (fun k => spec_prCompose.f k a b) (b.map (applyMap a)) := by
  have := spec_prCompose.loop a b n hn ha hb hla hl b.length 0 [] (by omega) (by omega) rfl
  rw [List.drop_zero, List.nil_append] at this
  exact this

/-! spec_ComposeMaps -/
theorem spec_ComposeMaps.ev (a b : List Int) (ha : a.length ≤ 1048576) (hb : b.length ≤ 1048576) : Ev (fun k => spec_ComposeMaps.f k a b) (if (goodMap a && goodMap b && decide (a.length = b.length)) = true then (b.map (applyMap a), true) else ([], false)) := by
  obtain ⟨K, hK⟩ := ev_and (spec_prGood.ev a (by omega)) (spec_prGood.ev b (by omega))
  by_cases hg : (goodMap a && goodMap b && decide (a.length = b.length)) = true
  · simp only [Bool.and_eq_true, decide_eq_true_eq] at hg
    obtain ⟨⟨ga, gb⟩, hl⟩ := hg
    have ma := goodMap_sets ga
    have mb := goodMap_sets gb
    obtain ⟨K2, hK2⟩ := spec_prCompose.ev a b a.length ma.2.1 ma.2.2 (by rw [hl]; exact mb.2.2) (by omega) hb
    refine ⟨K + K2, fun k hk => ?_⟩
    obtain ⟨h1, h2⟩ := hK k (by omega)
    have h3 : spec_prCompose.f k a b = _ := hK2 k (by omega)
    show spec_ComposeMaps.f k a b = _
    unfold spec_ComposeMaps.f
    rw [h1, ga, Option.bind_some, if_pos rfl, h2, gb, Option.bind_some, if_pos rfl, if_pos (by omega), h3]
    simp [hl]
  · refine ⟨K, fun k hk => ?_⟩
    obtain ⟨h1, h2⟩ := hK k (by omega)
    show spec_ComposeMaps.f k a b = _
    unfold spec_ComposeMaps.f
    rw [h1, h2, if_neg hg]
    simp only [Option.bind_some]
    cases ga : goodMap a
    · rfl
    · cases gb : goodMap b
      · rfl
      · rw [ga, gb] at hg
        have : ¬ (a.length : Int) = b.length := fun e => hg (by simp; omega)
        rw [if_pos rfl, if_pos rfl, if_neg this]

/-! impl_in -/
theorem impl_in.eq (x a b : Int) : impl_in.f x a b = some (decide (a ≤ x) && decide (x ≤ b)) := by
  unfold impl_in.f
  by_cases h : a ≤ x
  · rw [if_pos h]; simp [h]
  · rw [if_neg h]; simp [h]

/-! impl_whole -/
theorem impl_whole.eq (n : Int) (h0 : 0 ≤ n) (h1 : n ≤ 62) : impl_whole.f n = some (2 ^ n.toNat - 1) := by unfold impl_whole.f; rw [if_pos h0, whole_eq h0 h1]

/-! impl_isCount -/
theorem impl_isCount.eq (x : Int) : impl_isCount.f x = some (decide (1 ≤ x) && decide (x ≤ 16)) := by unfold impl_isCount.f; rw [impl_in.eq]; rfl

/-! impl_isMap -/
theorem impl_isMap.one_eq (m : List Int) : impl_isMap.one m = goodMap m := by
  unfold impl_isMap.one goodMap
  rw [impl_isCount.eq]
  by_cases hn : 1 ≤ m.length ∧ m.length ≤ 16
  · rw [decide_eq_true hn, decide_eq_true (show (1 : Int) ≤ m.length by omega), decide_eq_true (show (m.length : Int) ≤ 16 by omega)]
    have e : impl_isMap.p m.length = fun s => !(inSet m.length s) := by
      funext s
      unfold impl_isMap.p
      rw [whole_eq (by omega) (by omega), impl_in.eq, Int.toNat_natCast, ← inSet_eq' m.length s]
      rfl
    rw [e, List.not_any_eq_all_not]
    simp
  · rw [decide_eq_false hn]
    have : (decide (1 ≤ (m.length : Int)) && decide ((m.length : Int) ≤ 16)) = false := by
      rw [Bool.and_eq_false_iff, decide_eq_false_iff_not, decide_eq_false_iff_not]
      omega
    rw [this]
    rfl
theorem impl_isMap.eq (ms : List (List Int)) : impl_isMap.f ms = some (ms.all goodMap) := by
  unfold impl_isMap.f
  rw [show impl_isMap.one = goodMap from funext impl_isMap.one_eq]

/-! impl_has -/
theorem impl_has.eq (x i : Int) (hx : 0 ≤ x) (hx1 : x < 2 ^ 63) (hi : 0 ≤ i) : impl_has.f x i = some (bit x i) := by unfold impl_has.f; rw [if_pos hi, has_bit hx hx1 hi]

/-! impl_apply -/
theorem impl_apply.loop (m : List Int) (s : Int) (n : Nat) (hn : n ≤ 62) (hm : ∀ x ∈ m, 0 ≤ x ∧ x < 2 ^ n) (h0 : 0 ≤ s) (h1 : s < 2 ^ 63) (hl : m.length < 4611686018427387904) (d : Nat) :
    ∀ (i : Nat) (o : Int), m.length - i = d → i ≤ m.length → 0 ≤ o → o < 2 ^ n → Ev (fun k => impl_apply.l0 k s o m (m.length : Int) (i : Int)) (applyGo s o i (m.drop i)) := by
  have hp := pow_le63 (n := n) (by omega)
  induction d with
  | zero =>
    intro i o hd hi ho0 ho1
    refine now fun k => ?_
    simp only [impl_apply.l0]
    rw [if_neg (by omega), List.drop_eq_nil_of_le (by omega)]
    rfl
  | succ d ih =>
    intro i o hd hi ho0 ho1
    have hlt : i < m.length := by omega
    have hx := hm m[i] (List.getElem_mem _)
    have hin := impl_has.eq s (i : Int) h0 h1 (by omega)
    rw [drop_cons m i hlt, applyGo]
    cases e : bit s (i : Int)
    · refine Ev.step (f := fun k => impl_apply.l0 k s o m (m.length : Int) ((i + 1 : Nat) : Int)) (fun k => ?_) (by simpa using ih (i + 1) o (by omega) (by omega) ho0 ho1)
      simp only [impl_apply.l0]
      rw [if_pos (by omega), if_pos (by omega), if_pos (by omega), hin, Option.bind_some, e, wrap_succ i (by omega)]
      rfl
    · refine Ev.step (f := fun k => impl_apply.l0 k s ((o.toNat ^^^ m[i].toNat : Nat) : Int) m (m.length : Int) ((i + 1 : Nat) : Int)) (fun k => ?_) (by simpa using ih (i + 1) _ (by omega) (by omega) (by omega) (xor_lt ho1 hx.2 ho0 hx.1))
      simp only [impl_apply.l0]
      rw [if_pos (by omega), if_pos (by omega), if_pos (by omega), hin, Option.bind_some, e, if_pos rfl, rd_get m i hlt, xor_eq ho0 (by omega) hx.1 (by omega), wrap_succ i (by omega)]
theorem impl_apply.ev (m : List Int) (s : Int) (n : Nat) (hn : n ≤ 62) (hm : ∀ x ∈ m, 0 ≤ x ∧ x < 2 ^ n) (h0 : 0 ≤ s) (h1 : s < 2 ^ 63) (hl : m.length < 4611686018427387904) : Ev (fun k => impl_apply.f k m s) (applyMap m s) :=
  impl_apply.loop m s n hn hm h0 h1 hl m.length 0 0 (by omega) (by omega) (by omega) (Int.pow_pos (by decide))

/-! impl_compose -/
theorem impl_compose.loop (a b : List Int) (n : Nat) (hn : n ≤ 16) (ha : ∀ x ∈ a, 0 ≤ x ∧ x < 2 ^ n) (hb : ∀ x ∈ b, 0 ≤ x ∧ x < 2 ^ n) (hla : a.length < 4611686018427387904) (hl : b.length ≤ 1048576) (d : Nat) :
    ∀ (i : Nat) (o : List Int), b.length - i = d → i ≤ b.length → o.length = i → Ev (fun k => impl_compose.l0 k a o b (b.length : Int) (i : Int)) (o ++ (b.drop i).map (applyMap a)) := by
  have h16 := pow16 hn
  induction d with
  | zero =>
    intro i o hd hi ho
    refine now fun k => ?_
    simp only [impl_compose.l0]
    rw [if_neg (by omega), List.drop_eq_nil_of_le (by omega), List.map_nil, List.append_nil]
  | succ d ih =>
    intro i o hd hi ho
    have hlt : i < b.length := by omega
    have hx := hb b[i] (List.getElem_mem _)
    rw [drop_cons b i hlt, List.map_cons]
    refine Ev.step (f := fun k => (impl_apply.f k a b[i]).bind fun t => impl_compose.l0 k a (o ++ [t]) b (b.length : Int) ((i + 1 : Nat) : Int)) (fun k => ?_) (Ev.bind (impl_apply.ev a b[i] n (by omega) ha hx.1 (by omega) hla) (by simpa using ih (i + 1) (o ++ [applyMap a b[i]]) (by omega) (by omega) (by simp [ho])))
    simp only [impl_compose.l0]
    rw [if_pos (by omega), if_pos (by omega), if_pos (by omega), rd_get b i hlt]
    simp only [if_pos (show o.length < 17592186044416 by omega), wrap_succ i (show i < 4611686018427387904 by omega)]
theorem impl_compose.ev (a b : List Int) (n : Nat) (hn : n ≤ 16) (ha : ∀ x ∈ a, 0 ≤ x ∧ x < 2 ^ n) (hb : ∀ x ∈ b, 0 ≤ x ∧ x < 2 ^ n) (hla : a.length < 4611686018427387904) (hl : b.length ≤ 1048576) : Ev (fun k => impl_compose.f k a b) (b.map (applyMap a)) := by
  have := impl_compose.loop a b n hn ha hb hla hl b.length 0 [] (by omega) (by omega) rfl
  rw [List.drop_zero, List.nil_append] at this
  exact this

/-! impl_ComposeMaps -/
theorem impl_ComposeMaps.ev (a b : List Int) (ha : a.length ≤ 1048576) (hb : b.length ≤ 1048576) : Ev (fun k => impl_ComposeMaps.f k a b) (if (goodMap a && goodMap b && decide (a.length = b.length)) = true then (b.map (applyMap a), true) else ([], false)) := by
  have e0 : impl_isMap.f [a, b] = some (goodMap a && goodMap b) := by rw [impl_isMap.eq]; simp
  by_cases hg : (goodMap a && goodMap b && decide (a.length = b.length)) = true
  · have hg' := hg
    simp only [Bool.and_eq_true, decide_eq_true_eq] at hg
    obtain ⟨⟨ga, gb⟩, hl⟩ := hg
    have ma := goodMap_sets ga
    have mb := goodMap_sets gb
    obtain ⟨K2, hK2⟩ := impl_compose.ev a b a.length ma.2.1 ma.2.2 (by rw [hl]; exact mb.2.2) (by omega) hb
    refine ⟨K2, fun k hk => ?_⟩
    have h3 : impl_compose.f k a b = _ := hK2 k (by omega)
    show impl_ComposeMaps.f k a b = _
    unfold impl_ComposeMaps.f
    simp only [e0, ga, gb, Option.bind_some, Bool.and_self, if_true]
    rw [if_pos (by omega), h3]
    simp [hl]
  · refine always fun k => ?_
    unfold impl_ComposeMaps.f
    rw [e0, if_neg hg, Option.bind_some]
    cases g : (goodMap a && goodMap b)
    · rfl
    · rw [g] at hg
      have : ¬ (a.length : Int) = b.length := fun e => hg (by simp; omega)
      rw [if_pos rfl, if_neg this]
end Go.Proofs.Ytijccendobcndaa.Pure
