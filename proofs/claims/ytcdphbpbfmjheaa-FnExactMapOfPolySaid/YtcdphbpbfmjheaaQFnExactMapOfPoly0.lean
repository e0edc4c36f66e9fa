/- What the functions of FnExactMapOfPoly compute, in plain words. -/
import Derived.Test.YtcdphbpbfmjheaaPFnExactMapOfPolyx8
import Derived.Test.YtcdphbpbfmjheaaM1
import Derived.Test.YtcdphbpbfmjheaaM2
import Derived.Test.YtcdphbpbfmjheaaM4
import Derived.Test.YtcdphbpbfmjheaaM5
namespace Go.Proofs.Ytcdphbpbfmjheaa.Pure
open Go.RowKit Go.Proofs.Ytcdphbpbfmjheaa.PFnExactMapOfPoly Go.Proofs.YtcdphbpbfmjheaaW.PrintWords Go.Proofs.YtcdphbpbfmjheaaW.PrintLast Go.Proofs.YtcdphbpbfmjheaaW.PrintMore Go.Proofs.YtcdphbpbfmjheaaM
set_option linter.unusedVariables false
set_option linter.unusedSimpArgs false
/-! laws_toIntS -/
theorem laws_toIntS.loop (a : List Int) (h : a.length < 4611686018427387904) (d : Nat) : ∀ (i : Nat) (o : List Int), a.length - i = d → i ≤ a.length → o.length = a.length → o.take i = a.take i → Ev (fun k => laws_toIntS.l0 k a o (i : Int)) a := by
  induction d with
  | zero =>
    intro i o hd hi ho ht
    have e : o = a := by
      have : i = a.length := by omega
      subst this
      rw [List.take_length, List.take_of_length_le (by omega)] at ht
      exact ht
    subst e
    refine now fun k => ?_
    simp only [laws_toIntS.l0]
    rw [if_neg (by omega)]
  | succ d ih =>
    intro i o hd hi ho ht
    have hlt : i < a.length := by omega
    refine Ev.step (f := fun k => laws_toIntS.l0 k a (o.set i a[i]) ((i + 1 : Nat) : Int)) (fun k => ?_) (ih (i + 1) (o.set i a[i]) (by omega) (by omega) (by rw [List.length_set]; exact ho) ?_)
    · simp only [laws_toIntS.l0]
      rw [if_pos (by omega), if_pos (by omega), if_pos (by omega), rd_get a i hlt, wrap_succ i (by omega)]
      rfl
    · rw [List.take_succ_eq_append_getElem (by simp [ho, hlt]), List.take_succ_eq_append_getElem hlt]
      simp [List.take_set_of_le, ht]
theorem laws_toIntS.ev (a : List Int) (h : a.length ≤ 35184372088832) : Ev (fun k => laws_toIntS.f k a) a := by
  refine Ev.congr (f := fun k => laws_toIntS.l0 k a (List.replicate a.length 0) ((0 : Nat) : Int)) (fun k => ?_) (laws_toIntS.loop a (by omega) a.length 0 _ (by omega) (by omega) (by simp) (by simp))
  unfold laws_toIntS.f
  rw [if_pos (by omega), if_pos (by omega)]
  rfl

/-! laws_eqIntS -/
theorem laws_eqIntS.loop (a b : List Int) (hl : a.length = b.length) (h : a.length < 4611686018427387904) (d : Nat) : ∀ i : Nat, a.length - i = d → i ≤ a.length → Ev (fun k => laws_eqIntS.l0 k a b (i : Int)) (decide (a.drop i = b.drop i)) := by
  induction d with
  | zero =>
    intro i hd hi
    refine now fun k => ?_
    simp only [laws_eqIntS.l0]
    rw [if_neg (by omega), List.drop_eq_nil_of_le (by omega), List.drop_eq_nil_of_le (by omega)]
    rfl
  | succ d ih =>
    intro i hd hi
    have hlt : i < a.length := by omega
    have hltb : i < b.length := by omega
    rw [drop_cons a i hlt, drop_cons b i hltb]
    by_cases e : a[i] = b[i]
    · have := ih (i + 1) (by omega) (by omega)
      refine Ev.step (f := fun k => laws_eqIntS.l0 k a b ((i + 1 : Nat) : Int)) (fun k => ?_) (by rw [show decide (a[i] :: a.drop (i + 1) = b[i] :: b.drop (i + 1)) = decide (a.drop (i + 1) = b.drop (i + 1)) by simp only [List.cons.injEq, e, true_and]]; exact this)
      simp only [laws_eqIntS.l0]
      rw [if_pos (by omega), if_pos (by omega), if_pos (by omega), rd_get a i hlt, rd_get b i hltb, if_pos e, wrap_succ i (by omega)]
    · refine now fun k => ?_
      simp only [laws_eqIntS.l0]
      rw [if_pos (by omega), if_pos (by omega), if_pos (by omega), rd_get a i hlt, rd_get b i hltb, if_neg e, show decide (a[i] :: a.drop (i + 1) = b[i] :: b.drop (i + 1)) = false by simp only [List.cons.injEq, e, false_and, decide_false]]
theorem laws_eqIntS.ev (a b : List Int) (h : a.length < 4611686018427387904) : Ev (fun k => laws_eqIntS.f k a b) (decide (a = b)) := by
  by_cases hl : a.length = b.length
  · have := laws_eqIntS.loop a b hl h a.length 0 (by omega) (by omega)
    refine Ev.congr (f := fun k => laws_eqIntS.l0 k a b ((0 : Nat) : Int)) (fun k => ?_) (by simpa using this)
    unfold laws_eqIntS.f
    rw [if_pos (by omega)]
    rfl
  · refine always fun k => ?_
    unfold laws_eqIntS.f
    rw [if_neg (by omega)]
    have : ¬ a = b := fun e => hl (by rw [e])
    simp [this]

/-! laws_markIntS -/
theorem laws_markIntS.loop (n : Nat) (a : Int) (h0 : 0 ≤ a) (h1 : a + n < 4611686018427387904) (d : Nat) : ∀ (i : Nat) (o : List Int), o.length = n → n - i = d → i ≤ n → o.take i = (List.range i).map (fun (j : Nat) => a + (j : Int)) → Ev (fun k => laws_markIntS.l0 k o (a + i) (i : Int)) (a + n, marks n a) := by
  induction d with
  | zero =>
    intro i o ho hd hi ht
    refine now fun k => ?_
    have e : i = n := by omega
    subst e
    simp only [laws_markIntS.l0]
    rw [if_neg (by omega)]
    rw [List.take_of_length_le (by omega)] at ht
    rw [ht]
    rfl
  | succ d ih =>
    intro i o ho hd hi ht
    refine Ev.step (f := fun k => laws_markIntS.l0 k (o.set i (a + i)) (a + ((i + 1 : Nat) : Int)) ((i + 1 : Nat) : Int)) (fun k => ?_) (ih (i + 1) (o.set i (a + i)) (by simp [ho]) (by omega) (by omega) ?_)
    · simp only [laws_markIntS.l0]
      rw [if_pos (by omega), if_pos (by omega), wrap_succ i (by omega), wrap_id (by omega) (by omega), show a + (i : Int) + 1 = a + ((i + 1 : Nat) : Int) by omega]
      rfl
    · rw [List.take_succ_eq_append_getElem (by simp; omega), List.range_succ, List.map_append]
      simp [List.take_set_of_le, ht]
theorem laws_markIntS.ev (l : List Int) (a : Int) (h0 : 0 ≤ a) (h1 : a + l.length < 4611686018427387904) : Ev (fun k => laws_markIntS.f k l a) (a + l.length, marks l.length a) := by
  refine Ev.congr (f := fun k => laws_markIntS.l0 k l (a + ((0 : Nat) : Int)) ((0 : Nat) : Int)) (fun k => ?_) (laws_markIntS.loop l.length a h0 h1 l.length 0 l rfl (by omega) (by omega) (by simp))
  unfold laws_markIntS.f
  congr 1
  omega

/-! laws_heldIntS -/
theorem laws_heldIntS.loop (n : Nat) (a : Int) (h0 : 0 ≤ a) (h1 : a + n < 4611686018427387904) (d : Nat) : ∀ i : Nat, n - i = d → i ≤ n → Ev (fun k => laws_heldIntS.l0 k (marks n a) (a + i) (i : Int)) (a + n) := by
  have hl : (marks n a).length = n := by simp [marks]
  induction d with
  | zero =>
    intro i hd hi
    refine now fun k => ?_
    simp only [laws_heldIntS.l0]
    rw [if_neg (by omega), show i = n by omega]
  | succ d ih =>
    intro i hd hi
    refine Ev.step (f := fun k => laws_heldIntS.l0 k (marks n a) (a + ((i + 1 : Nat) : Int)) ((i + 1 : Nat) : Int)) (fun k => ?_) (ih (i + 1) (by omega) (by omega))
    simp only [laws_heldIntS.l0]
    rw [if_pos (by omega), if_pos (by omega), rd_get _ i (by omega), if_pos (by simp [marks]), wrap_succ i (by omega), wrap_id (by omega) (by omega), show a + (i : Int) + 1 = a + ((i + 1 : Nat) : Int) by omega]
theorem laws_heldIntS.ev (n : Nat) (a : Int) (h0 : 0 ≤ a) (h1 : a + n < 4611686018427387904) : Ev (fun k => laws_heldIntS.f k (marks n a) a) (a + n) := by
  refine Ev.congr (f := fun k => laws_heldIntS.l0 k (marks n a) (a + ((0 : Nat) : Int)) ((0 : Nat) : Int)) (fun k => ?_) (laws_heldIntS.loop n a h0 h1 n 0 (by omega) (by omega))
  unfold laws_heldIntS.f
  congr 1
  omega

/-! spec_l1In -/
theorem spec_l1In.eq (x a b : Int) : spec_l1In.f x a b = some (decide (a ≤ x) && decide (x ≤ b)) := by
  unfold spec_l1In.f
  by_cases h : a ≤ x
  · rw [if_pos (by omega)]; simp [h]
  · rw [if_neg (by omega)]; simp [h]

/-! spec_l1All -/
theorem spec_l1All.loop (l : List Int) (a b : Int) (h : l.length < 4611686018427387904) (d : Nat) : ∀ i : Nat, l.length - i = d → i ≤ l.length → Ev (fun k => spec_l1All.l0 k a b l (l.length : Int) (i : Int)) ((l.drop i).all fun x => decide (a ≤ x) && decide (x ≤ b)) := by
  induction d with
  | zero =>
    intro i hd hi
    refine now fun k => ?_
    simp only [spec_l1All.l0]
    rw [if_neg (by omega), List.drop_eq_nil_of_le (by omega)]
    rfl
  | succ d ih =>
    intro i hd hi
    have hlt : i < l.length := by omega
    rw [drop_cons l i hlt, List.all_cons]
    by_cases e : (decide (a ≤ l[i]) && decide (l[i] ≤ b)) = true
    · refine Ev.step (f := fun k => spec_l1All.l0 k a b l (l.length : Int) ((i + 1 : Nat) : Int)) (fun k => ?_) (by rw [e, Bool.true_and]; exact ih (i + 1) (by omega) (by omega))
      simp only [spec_l1All.l0]
      rw [if_pos (by omega), if_pos (by omega), if_pos (by omega), rd_get l i hlt, spec_l1In.eq, e, wrap_succ i (by omega)]
      rfl
    · refine now fun k => ?_
      simp only [spec_l1All.l0]
      replace e := Bool.eq_false_iff.mpr e
      rw [if_pos (by omega), if_pos (by omega), if_pos (by omega), rd_get l i hlt, spec_l1In.eq, e]
      rfl
theorem spec_l1All.ev (l : List Int) (a b : Int) (h : l.length < 4611686018427387904) : Ev (fun k => spec_l1All.f k l a b) (l.all fun x => decide (a ≤ x) && decide (x ≤ b)) :=
  spec_l1All.loop l a b h l.length 0 (by omega) (by omega)

/-! spec_grSize -/
theorem spec_grSize.eq (x : Int) : spec_grSize.f x = some (decide (1 ≤ x) && decide (x ≤ 16)) := by unfold spec_grSize.f; rw [spec_l1In.eq]; rfl

/-! spec_prGood -/
theorem spec_prGood.ev (m : List Int) (h : m.length < 4611686018427387904) : Ev (fun k => spec_prGood.f k m) (goodMap m) := by
  unfold goodMap
  by_cases hn : 1 ≤ m.length ∧ m.length ≤ 16
  · have e1 : spec_grSize.f (m.length : Int) = some true := by rw [spec_grSize.eq, decide_eq_true (by omega), decide_eq_true (by omega)]; rfl
    obtain ⟨K, hK⟩ := spec_l1All.ev m 0 (wrap64 ((shl .i64 1 (m.length : Int)) - 1)) h
    refine ⟨K, fun k hk => ?_⟩
    have h1 : spec_l1All.f k m 0 (wrap64 ((shl .i64 1 (m.length : Int)) - 1)) = _ := hK k hk
    show spec_prGood.f k m = _
    unfold spec_prGood.f
    rw [e1, Option.bind_some, if_pos rfl, h1, Option.bind_some, decide_eq_true hn, Bool.true_and, whole_eq (by omega) (by omega)]
    congr 2
    funext x
    rw [inSet_eq]
  · have e1 : spec_grSize.f (m.length : Int) = some false := by
      rw [spec_grSize.eq]
      congr 1
      rw [Bool.and_eq_false_iff, decide_eq_false_iff_not, decide_eq_false_iff_not]
      omega
    refine always fun k => ?_
    unfold spec_prGood.f
    rw [e1, Option.bind_some, if_neg (by decide), decide_eq_false hn, Bool.false_and]

/-! spec_poGood -/
theorem spec_poGood.eq (p : Int) : spec_poGood.f p = some (isPoly p) := by
  unfold spec_poGood.f
  rw [spec_l1In.eq]
  rfl

/-! spec_grIn -/
theorem spec_grIn.eq (x i : Int) (hx : 0 ≤ x) (hx1 : x < 2 ^ 63) (hi : 0 ≤ i) : spec_grIn.f x i = some (bit x i) := by unfold spec_grIn.f; rw [if_pos hi, in_bit hx hx1 hi]

/-! spec_soTop -/
theorem spec_soTop.loop : ∀ (n : Nat) (x : Nat) (o : Int), blen x = n → n ≤ 63 → -1 ≤ o → o + n ≤ 100 → Ev (fun k => spec_soTop.l0 k (x : Int) o) (o + n)
  | 0, x, o, hn, _, h0, h1 => by
    have : x = 0 := by
      by_cases e : x = 0
      · exact e
      · rw [blen_pos e] at hn; omega
    subst this
    refine now fun k => ?_
    simp only [spec_soTop.l0]
    rw [if_neg (by decide)]
    simp
  | n + 1, x, o, hn, h63, h0, h1 => by
    have hb : x < 2 ^ 63 := lt_of_blen (by omega)
    have hx : x ≠ 0 := fun e => by rw [e, blen_zero] at hn; omega
    rw [blen_pos hx] at hn
    have ih := spec_soTop.loop n (x / 2) (o + 1) (by omega) (by omega) (by omega) (by omega)
    rw [show o + 1 + (n : Int) = o + ((n + 1 : Nat) : Int) by omega] at ih
    refine Ev.step (f := fun k => spec_soTop.l0 k ((x / 2 : Nat) : Int) (o + 1)) (fun k => ?_) ih
    simp only [spec_soTop.l0]
    rw [if_pos (by omega), Int.tdiv_eq_ediv_of_nonneg (by omega), wrap_id (by omega) (by omega), wrap_id (by omega) (by omega), show (x : Int) / 2 = ((x / 2 : Nat) : Int) by omega]
theorem spec_soTop.ev (x : Nat) (hx : x < 2 ^ 63) : Ev (fun k => spec_soTop.f k (x : Int)) (pdeg x) := by
  have hb : blen x ≤ 63 := blen_le hx
  have := spec_soTop.loop (blen x) x (-1) rfl hb (by omega) (by omega)
  rw [show (-1 : Int) + (blen x : Int) = pdeg x by unfold pdeg; omega] at this
  exact this

/-! spec_poDegree -/
theorem spec_poDegree.ev (x : Nat) (hx : x < 2 ^ 63) : Ev (fun k => spec_poDegree.f k (x : Int)) (pdeg x) := by
  obtain ⟨K, hK⟩ := spec_soTop.ev x hx
  refine ⟨K, fun k hk => ?_⟩
  have h1 : spec_soTop.f k (x : Int) = _ := hK k hk
  show spec_poDegree.f k (x : Int) = _
  unfold spec_poDegree.f
  rw [h1]
  rfl

/-! spec_prApply -/
theorem spec_prApply.loop (m : List Int) (s : Int) (n : Nat) (hn : n ≤ 62) (hm : ∀ x ∈ m, 0 ≤ x ∧ x < 2 ^ n) (h0 : 0 ≤ s) (h1 : s < 2 ^ 63) (hl : m.length < 4611686018427387904) (d : Nat) :
    ∀ (i : Nat) (o : Int), m.length - i = d → i ≤ m.length → 0 ≤ o → o < 2 ^ n → Ev (fun k => spec_prApply.l0 k s o m (m.length : Int) (i : Int)) (applyGo s o i (m.drop i)) := by
  have hp := pow_le63 (n := n) (by omega)
  induction d with
  | zero =>
    intro i o hd hi ho0 ho1
    refine now fun k => ?_
    simp only [spec_prApply.l0]
    rw [if_neg (by omega), List.drop_eq_nil_of_le (by omega)]
    rfl
  | succ d ih =>
    intro i o hd hi ho0 ho1
    have hlt : i < m.length := by omega
    have hx := hm m[i] (List.getElem_mem _)
    have hin := spec_grIn.eq s (i : Int) h0 h1 (by omega)
    rw [drop_cons m i hlt, applyGo]
    cases e : bit s (i : Int)
    · refine Ev.step (f := fun k => spec_prApply.l0 k s o m (m.length : Int) ((i + 1 : Nat) : Int)) (fun k => ?_) (by simpa using ih (i + 1) o (by omega) (by omega) ho0 ho1)
      simp only [spec_prApply.l0]
      rw [if_pos (by omega), if_pos (by omega), if_pos (by omega), hin, Option.bind_some, e, wrap_succ i (by omega)]
      rfl
    · refine Ev.step (f := fun k => spec_prApply.l0 k s ((o.toNat ^^^ m[i].toNat : Nat) : Int) m (m.length : Int) ((i + 1 : Nat) : Int)) (fun k => ?_) (by simpa using ih (i + 1) _ (by omega) (by omega) (by omega) (xor_lt ho1 hx.2 ho0 hx.1))
      simp only [spec_prApply.l0]
      rw [if_pos (by omega), if_pos (by omega), if_pos (by omega), hin, Option.bind_some, e, if_pos rfl, rd_get m i hlt, xor_eq ho0 (by omega) hx.1 (by omega), wrap_succ i (by omega)]
theorem spec_prApply.ev (m : List Int) (s : Int) (n : Nat) (hn : n ≤ 62) (hm : ∀ x ∈ m, 0 ≤ x ∧ x < 2 ^ n) (h0 : 0 ≤ s) (h1 : s < 2 ^ 63) (hl : m.length < 4611686018427387904) : Ev (fun k => spec_prApply.f k m s) (applyMap m s) :=
  spec_prApply.loop m s n hn hm h0 h1 hl m.length 0 0 (by omega) (by omega) (by omega) (Int.pow_pos (by decide))

/-! spec_prCompose -/
theorem spec_prCompose.loop (a b : List Int) (n : Nat) (hn : n ≤ 16) (ha : ∀ x ∈ a, 0 ≤ x ∧ x < 2 ^ n) (hb : ∀ x ∈ b, 0 ≤ x ∧ x < 2 ^ n) (hla : a.length < 4611686018427387904) (hl : b.length ≤ 1048576) (d : Nat) :
    ∀ (i : Nat) (o : List Int), b.length - i = d → i ≤ b.length → o.length = i → Ev (fun k => spec_prCompose.l0 k a o b (b.length : Int) (i : Int)) (o ++ (b.drop i).map (applyMap a)) := by
  have h16 := pow16 hn
  induction d with
  | zero =>
    intro i o hd hi ho
    refine now fun k => ?_
    simp only [spec_prCompose.l0]
    rw [if_neg (by omega), List.drop_eq_nil_of_le (by omega), List.map_nil, List.append_nil]
  | succ d ih =>
    intro i o hd hi ho
    have hlt : i < b.length := by omega
    have hx := hb b[i] (List.getElem_mem _)
    rw [drop_cons b i hlt, List.map_cons]
    refine Ev.step (f := fun k => (spec_prApply.f k a b[i]).bind fun t => spec_prCompose.l0 k a (o ++ [t]) b (b.length : Int) ((i + 1 : Nat) : Int)) (fun k => ?_) (Ev.bind (spec_prApply.ev a b[i] n (by omega) ha hx.1 (by omega) hla) (by simpa using ih (i + 1) (o ++ [applyMap a b[i]]) (by omega) (by omega) (by simp [ho])))
    simp only [spec_prCompose.l0]
    rw [if_pos (by omega), if_pos (by omega), if_pos (by omega), rd_get b i hlt]
    simp only [if_pos (show o.length < 17592186044416 by omega), wrap_succ i (show i < 4611686018427387904 by omega)]
theorem spec_prCompose.ev (a b : List Int) (n : Nat) (hn : n ≤ 16) (ha : ∀ x ∈ a, 0 ≤ x ∧ x < 2 ^ n) (hb : ∀ x ∈ b, 0 ≤ x ∧ x < 2 ^ n) (hla : a.length < 4611686018427387904) (hl : b.length ≤ 1048576) : Ev (fun k => spec_prCompose.f k a b) (b.map (applyMap a)) := by
  have := spec_prCompose.loop a b n hn ha hb hla hl b.length 0 [] (by omega) (by omega) rfl
  rw [List.drop_zero, List.nil_append] at this
  exact this

/-! spec_l1Own -/
theorem spec_l1Own.eq (l : List Int) (h : l.length < 17592186044416) : spec_l1Own.f l = some l := by
  unfold spec_l1Own.f
  rw [Option.bind_some, if_pos (by simpa using h)]
  rfl

/-! spec_prAdd -/
theorem spec_prAdd.loop (a b : List Int) (n : Nat) (hn : n ≤ 62) (hab : a.length = b.length) (ha : ∀ x ∈ a, 0 ≤ x ∧ x < 2 ^ n) (hb : ∀ x ∈ b, 0 ≤ x ∧ x < 2 ^ n) (hl : a.length ≤ 1048576) (d : Nat) :
    ∀ (i : Nat) (o : List Int), a.length - i = d → i ≤ a.length → o = addTo i a b → Ev (fun k => spec_prAdd.l0 k b o (a.length : Int) (i : Int)) (addTo a.length a b) := by
  have hp := pow_le63 (n := n) (by omega)
  induction d with
  | zero =>
    intro i o hd hi ho
    refine now fun k => ?_
    simp only [spec_prAdd.l0]
    rw [if_neg (by omega), ho, show i = a.length by omega]
  | succ d ih =>
    intro i o hd hi ho
    have hlt : i < a.length := by omega
    have hltb : i < b.length := by omega
    have hx := ha a[i] (List.getElem_mem _)
    have hy := hb b[i] (List.getElem_mem _)
    have hol : o.length = a.length := by rw [ho, addTo_length a b i (by omega)]
    have hoi : o[i]'(by omega) = a[i] := by
      subst ho
      exact addTo_get a b i hlt hab
    refine Ev.step (f := fun k => spec_prAdd.l0 k b (o.set i ((a[i].toNat ^^^ b[i].toNat : Nat) : Int)) (a.length : Int) ((i + 1 : Nat) : Int)) (fun k => ?_) (ih (i + 1) _ (by omega) (by omega) ?_)
    · simp only [spec_prAdd.l0]
      rw [if_pos (by omega), if_pos (by omega), if_pos (by omega), if_pos (by omega), rd_get o i (by omega), rd_get b i hltb, hoi, xor_eq hx.1 (by omega) hy.1 (by omega), wrap_succ i (by omega)]
      rfl
    · rw [ho]
      exact addTo_succ a b i hlt hab
theorem spec_prAdd.ev (a b : List Int) (n : Nat) (hn : n ≤ 62) (hab : a.length = b.length) (ha : ∀ x ∈ a, 0 ≤ x ∧ x < 2 ^ n) (hb : ∀ x ∈ b, 0 ≤ x ∧ x < 2 ^ n) (hl : a.length ≤ 1048576) : Ev (fun k => spec_prAdd.f k a b) (addSets a b) := by
  have h := spec_prAdd.loop a b n hn hab ha hb hl a.length 0 a (by omega) (by omega) (addTo_zero a b).symm
  rw [addTo_all a b hab] at h
  refine Ev.congr (f := fun k => spec_prAdd.l0 k b a (a.length : Int) ((0 : Nat) : Int)) (fun k => ?_) h
  unfold spec_prAdd.f
  rw [spec_l1Own.eq a (by omega)]
  rfl

/-! spec_prOne -/
theorem spec_prOne.loop (n : Nat) (hn : n ≤ 62) (d : Nat) : ∀ (i : Nat) (o : List Int), i + d = n → o.length = i → Ev (fun k => spec_prOne.l0 k (n : Int) o (i : Int)) (o ++ (List.range' i d).map fun j => ((2 ^ j : Nat) : Int)) := by
  induction d with
  | zero =>
    intro i o h hl
    refine now fun k => ?_
    simp only [spec_prOne.l0]
    rw [if_neg (by omega)]
    simp
  | succ d ih =>
    intro i o h hl
    have ih' := ih (i + 1) (o ++ [((2 ^ i : Nat) : Int)]) (by omega) (by simp; omega)
    rw [List.append_assoc] at ih'
    rw [List.range'_succ, List.map_cons]
    refine Ev.step (f := fun k => spec_prOne.l0 k (n : Int) (o ++ [((2 ^ i : Nat) : Int)]) ((i + 1 : Nat) : Int)) (fun k => ?_) ih'
    simp only [spec_prOne.l0]
    rw [if_pos (by omega), if_pos (by omega), if_pos (by omega), shl_one (by omega) (by omega), Int.toNat_natCast, wrap_succ i (by omega)]
theorem spec_prOne.ev (n : Nat) (hn : n ≤ 62) : Ev (fun k => spec_prOne.f k (n : Int)) (oneMap n) := by
  have := spec_prOne.loop n hn n 0 [] (by omega) rfl
  rw [List.nil_append] at this
  exact this

/-! spec_prPoly -/
theorem spec_prPoly.loop (m : List Int) (hn : m.length ≤ 16) (hm : ∀ x ∈ m, 0 ≤ x ∧ x < 2 ^ m.length) (p : Nat) (hp : p < 2 ^ 62) (k : Nat) : ∀ (o : List Int), k ≤ 62 → o.length = m.length → (∀ x ∈ o, 0 ≤ x ∧ x < 2 ^ m.length) → Ev (fun n => spec_prPoly.l0 n m (p : Int) o ((k : Int) - 1)) (polyGo m p k o) := by
  induction k with
  | zero =>
    intro o hk hl ho
    refine now fun n => ?_
    simp only [spec_prPoly.l0]
    rw [if_neg (by omega)]
    rfl
  | succ k ih =>
    intro o hk hl ho
    have hh := spec_grIn.eq (p : Int) (k : Int) (by omega) (by omega) (by omega)
    rw [show bit (p : Int) (k : Int) = p.testBit k from rfl] at hh
    have hb := step_bounds m hm o (p.testBit k) hl
    have ih' := ih _ (by omega) hb.2.2 hb.2.1
    obtain ⟨K1, hK1⟩ := ev_and (spec_prCompose.ev m o m.length hn hm ho (by omega) (by omega)) (spec_prOne.ev m.length (by omega))
    have hlen : (o.map (applyMap m)).length = m.length := by rw [List.length_map, hl]
    cases e : p.testBit k
    · rw [e, if_neg (by decide)] at ih'
      obtain ⟨K2, hK2⟩ := ih'
      refine ⟨K1 + K2 + 1, fun n hnn => ?_⟩
      obtain ⟨j, rfl⟩ : ∃ j, n = j + 1 := ⟨n - 1, by omega⟩
      obtain ⟨c1, c2⟩ := hK1 j (by omega)
      have c3 := hK2 j (by omega)
      simp only [spec_prPoly.l0, polyGo]
      rw [if_pos (by omega), show ((k + 1 : Nat) : Int) - 1 = (k : Int) by omega, c1, Option.bind_some, hh, Option.bind_some, e, if_neg (by decide), if_neg (by decide), wrap_id (by omega) (by omega)]
      exact c3
    · rw [e, if_pos rfl] at ih'
      obtain ⟨K2, hK2⟩ := ih'
      obtain ⟨K3, hK3⟩ := spec_prAdd.ev (o.map (applyMap m)) (oneMap m.length) m.length (by omega) (by rw [hlen, oneMap_length]) hb.1 (oneMap_bounds m.length) (by omega)
      refine ⟨K1 + K2 + K3 + 1, fun n hnn => ?_⟩
      obtain ⟨j, rfl⟩ : ∃ j, n = j + 1 := ⟨n - 1, by omega⟩
      obtain ⟨c1, c2⟩ := hK1 j (by omega)
      have c3 := hK2 j (by omega)
      have c4 : spec_prAdd.f j (o.map (applyMap m)) (oneMap m.length) = _ := hK3 j (by omega)
      simp only [spec_prPoly.l0, polyGo]
      rw [if_pos (by omega), show ((k + 1 : Nat) : Int) - 1 = (k : Int) by omega, c1, Option.bind_some, hh, Option.bind_some, e, if_pos rfl, c2, Option.bind_some, c4, Option.bind_some, wrap_id (by omega) (by omega)]
      rw [if_pos rfl]
      exact c3
theorem spec_prPoly.ev (m : List Int) (hn : m.length ≤ 16) (hm : ∀ x ∈ m, 0 ≤ x ∧ x < 2 ^ m.length) (p : Nat) (hp : p < 2 ^ 62) : Ev (fun n => spec_prPoly.f n m (p : Int)) (polyMap m p) := by
  obtain ⟨K, hK⟩ := ev_and (spec_poDegree.ev p (by omega)) (spec_prPoly.loop m hn hm p hp (blen p) (List.replicate m.length 0) (blen_le hp) (by simp) (zeros_bounds _ _))
  refine ⟨K, fun n hnn => ?_⟩
  obtain ⟨c1, c2⟩ := hK n hnn
  show spec_prPoly.f n m (p : Int) = _
  unfold spec_prPoly.f
  rw [if_pos (by omega), if_pos (by omega), c1, Option.bind_some, Int.toNat_natCast]
  exact c2

/-! spec_MapOfPoly -/
theorem spec_MapOfPoly.ev (m : List Int) (p : Int) (h : m.length ≤ 1048576) : Ev (fun k => spec_MapOfPoly.f k m p) (if (goodMap m && isPoly p) = true then (polyMap m p.toNat, true) else (([] : List Int), false)) := by
  obtain ⟨K, hK⟩ := spec_prGood.ev m (by omega)
  cases e1 : goodMap m
  · refine ⟨K, fun k hk => ?_⟩
    have h1 : spec_prGood.f k m = _ := hK k hk
    show spec_MapOfPoly.f k m p = _
    unfold spec_MapOfPoly.f
    rw [h1, Option.bind_some, e1]
    rfl
  · cases e2 : isPoly p
    · refine ⟨K, fun k hk => ?_⟩
      have h1 : spec_prGood.f k m = _ := hK k hk
      show spec_MapOfPoly.f k m p = _
      unfold spec_MapOfPoly.f
      rw [h1, Option.bind_some, e1, if_pos rfl, spec_poGood.eq, Option.bind_some, e2]
      rfl
    · have g := goodMap_sets e1
      have hp : 0 ≤ p ∧ p ≤ 2199023255551 := by simpa [isPoly] using e2
      obtain ⟨K2, hK2⟩ := spec_prPoly.ev m g.2.1 g.2.2 p.toNat (by omega)
      refine ⟨K + K2, fun k hk => ?_⟩
      have h1 : spec_prGood.f k m = _ := hK k (by omega)
      have h2 : spec_prPoly.f k m (p.toNat : Int) = _ := hK2 k (by omega)
      rw [Int.toNat_of_nonneg hp.1] at h2
      show spec_MapOfPoly.f k m p = _
      unfold spec_MapOfPoly.f
      rw [h1, Option.bind_some, e1, if_pos rfl, spec_poGood.eq, Option.bind_some, e2, if_pos rfl, h2, Option.bind_some]
      rfl

/-! impl_in -/
theorem impl_in.eq (x a b : Int) : impl_in.f x a b = some (decide (a ≤ x) && decide (x ≤ b)) := by
  unfold impl_in.f
  by_cases h : a ≤ x
  · rw [if_pos h]; simp [h]
  · rw [if_neg h]; simp [h]

/-! impl_isCount -/
theorem impl_isCount.eq (x : Int) : impl_isCount.f x = some (decide (1 ≤ x) && decide (x ≤ 16)) := by unfold impl_isCount.f; rw [impl_in.eq]; rfl

/-! impl_whole -/
theorem impl_whole.eq (n : Int) (h0 : 0 ≤ n) (h1 : n ≤ 62) : impl_whole.f n = some (2 ^ n.toNat - 1) := by unfold impl_whole.f; rw [if_pos h0, whole_eq h0 h1]

/-! impl_isMap -/
theorem impl_isMap.one_eq (m : List Int) : impl_isMap.one m = goodMap m := by
  unfold impl_isMap.one goodMap
  rw [impl_isCount.eq]
  by_cases hn : 1 ≤ m.length ∧ m.length ≤ 16
  · rw [decide_eq_true hn, decide_eq_true (show (1 : Int) ≤ m.length by omega), decide_eq_true (show (m.length : Int) ≤ 16 by omega)]
    have e : impl_isMap.p m.length = fun s => !(inSet m.length s) := by
      funext s
      unfold impl_isMap.p
      rw [whole_eq (by omega) (by omega), impl_in.eq, Int.toNat_natCast, ← inSet_eq' m.length s]
      rfl
    rw [e, List.not_any_eq_all_not]
    simp
  · rw [decide_eq_false hn]
    have : (decide (1 ≤ (m.length : Int)) && decide ((m.length : Int) ≤ 16)) = false := by
      rw [Bool.and_eq_false_iff, decide_eq_false_iff_not, decide_eq_false_iff_not]
      omega
    rw [this]
    rfl
theorem impl_isMap.eq (ms : List (List Int)) : impl_isMap.f ms = some (ms.all goodMap) := by
  unfold impl_isMap.f
  rw [show impl_isMap.one = goodMap from funext impl_isMap.one_eq]

/-! impl_isPoly -/
theorem impl_isPoly.p_eq : impl_isPoly.p = fun s => !(isPoly s) := by
  funext s
  unfold impl_isPoly.p
  rw [whole_eq (n := 41) (by decide) (by decide), impl_in.eq]
  rfl
theorem impl_isPoly.eq (ps : List Int) : impl_isPoly.f ps = some (ps.all isPoly) := by
  unfold impl_isPoly.f
  rw [impl_isPoly.p_eq, List.not_any_eq_all_not]
  simp

/-! impl_has -/
theorem impl_has.eq (x i : Int) (hx : 0 ≤ x) (hx1 : x < 2 ^ 63) (hi : 0 ≤ i) : impl_has.f x i = some (bit x i) := by unfold impl_has.f; rw [if_pos hi, has_bit hx hx1 hi]

/-! impl_sameMap -/
theorem impl_sameMap.loop (n : Nat) (hn : n ≤ 62) (d : Nat) : ∀ (i : Nat) (o : List Int), i + d = n → o.length = i → Ev (fun k => impl_sameMap.l0 k o (n : Int) (i : Int)) (o ++ (List.range' i d).map fun j => ((2 ^ j : Nat) : Int)) := by
  induction d with
  | zero =>
    intro i o h hl
    refine now fun k => ?_
    simp only [impl_sameMap.l0]
    rw [if_neg (by omega)]
    simp
  | succ d ih =>
    intro i o h hl
    have ih' := ih (i + 1) (o ++ [((2 ^ i : Nat) : Int)]) (by omega) (by simp; omega)
    rw [List.append_assoc] at ih'
    rw [List.range'_succ, List.map_cons]
    refine Ev.step (f := fun k => impl_sameMap.l0 k (o ++ [((2 ^ i : Nat) : Int)]) (n : Int) ((i + 1 : Nat) : Int)) (fun k => ?_) ih'
    simp only [impl_sameMap.l0]
    rw [if_pos (by omega), if_pos (by omega), if_pos (by omega), shl_one (by omega) (by omega), Int.toNat_natCast, wrap_succ i (by omega)]
theorem impl_sameMap.ev (n : Nat) (hn : n ≤ 62) : Ev (fun k => impl_sameMap.f k (n : Int)) (oneMap n) := by
  have := impl_sameMap.loop n hn n 0 [] (by omega) rfl
  rw [List.nil_append] at this
  exact this

/-! bits_Len64 -/
theorem bits_Len64.tab_rows : ∀ i, i < 256 → bt (⟨#[0, 1, 2, 2, 3, 3, 3, 3, 4, 4, 4, 4, 4, 4, 4, 4, 5, 5, 5, 5, 5, 5, 5, 5, 5, 5, 5, 5, 5, 5, 5, 5, 6, 6, 6, 6, 6, 6, 6, 6, 6, 6, 6, 6, 6, 6, 6, 6, 6, 6, 6, 6, 6, 6, 6, 6, 6, 6, 6, 6, 6, 6, 6, 6, 7, 7, 7, 7, 7, 7, 7, 7, 7, 7, 7, 7, 7, 7, 7, 7, 7, 7, 7, 7, 7, 7, 7, 7, 7, 7, 7, 7, 7, 7, 7, 7, 7, 7, 7, 7, 7, 7, 7, 7, 7, 7, 7, 7, 7, 7, 7, 7, 7, 7, 7, 7, 7, 7, 7, 7, 7, 7, 7, 7, 7, 7, 7, 7, 8, 8, 8, 8, 8, 8, 8, 8, 8, 8, 8, 8, 8, 8, 8, 8, 8, 8, 8, 8, 8, 8, 8, 8, 8, 8, 8, 8, 8, 8, 8, 8, 8, 8, 8, 8, 8, 8, 8, 8, 8, 8, 8, 8, 8, 8, 8, 8, 8, 8, 8, 8, 8, 8, 8, 8, 8, 8, 8, 8, 8, 8, 8, 8, 8, 8, 8, 8, 8, 8, 8, 8, 8, 8, 8, 8, 8, 8, 8, 8, 8, 8, 8, 8, 8, 8, 8, 8, 8, 8, 8, 8, 8, 8, 8, 8, 8, 8, 8, 8, 8, 8, 8, 8, 8, 8, 8, 8, 8, 8, 8, 8, 8, 8, 8, 8, 8, 8, 8, 8, 8, 8, 8, 8, 8, 8, 8, 8]⟩ : ByteArray) ((i : Nat) : Int) = ((blk 8 i : Nat) : Int) := by decide +kernel
theorem bits_Len64.tab (i : Nat) (h : i < 256) : bt (⟨#[0, 1, 2, 2, 3, 3, 3, 3, 4, 4, 4, 4, 4, 4, 4, 4, 5, 5, 5, 5, 5, 5, 5, 5, 5, 5, 5, 5, 5, 5, 5, 5, 6, 6, 6, 6, 6, 6, 6, 6, 6, 6, 6, 6, 6, 6, 6, 6, 6, 6, 6, 6, 6, 6, 6, 6, 6, 6, 6, 6, 6, 6, 6, 6, 7, 7, 7, 7, 7, 7, 7, 7, 7, 7, 7, 7, 7, 7, 7, 7, 7, 7, 7, 7, 7, 7, 7, 7, 7, 7, 7, 7, 7, 7, 7, 7, 7, 7, 7, 7, 7, 7, 7, 7, 7, 7, 7, 7, 7, 7, 7, 7, 7, 7, 7, 7, 7, 7, 7, 7, 7, 7, 7, 7, 7, 7, 7, 7, 8, 8, 8, 8, 8, 8, 8, 8, 8, 8, 8, 8, 8, 8, 8, 8, 8, 8, 8, 8, 8, 8, 8, 8, 8, 8, 8, 8, 8, 8, 8, 8, 8, 8, 8, 8, 8, 8, 8, 8, 8, 8, 8, 8, 8, 8, 8, 8, 8, 8, 8, 8, 8, 8, 8, 8, 8, 8, 8, 8, 8, 8, 8, 8, 8, 8, 8, 8, 8, 8, 8, 8, 8, 8, 8, 8, 8, 8, 8, 8, 8, 8, 8, 8, 8, 8, 8, 8, 8, 8, 8, 8, 8, 8, 8, 8, 8, 8, 8, 8, 8, 8, 8, 8, 8, 8, 8, 8, 8, 8, 8, 8, 8, 8, 8, 8, 8, 8, 8, 8, 8, 8, 8, 8, 8, 8, 8, 8]⟩ : ByteArray) (i : Int) = ((blen i : Nat) : Int) := by rw [bits_Len64.tab_rows i h, blen_blk 8 i h]
/-- The steps behind the first test, with a table. -/
def bits_Len64.body (T : ByteArray) (x0 x2 : Int) : Option Int := if x0 ≥ 65536 then (if (x0 / 65536) ≥ 256 then (if 0 ≤ (((x0 / 65536) / 256) % 256) then (if (((x0 / 65536) / 256) % 256) < 256 then (some (wrap64 ((wrap64 ((wrap64 (x2 + 16)) + 8)) + (wrap64 (bt T (((x0 / 65536) / 256) % 256)))))) else (none)) else (none)) else (if 0 ≤ ((x0 / 65536) % 256) then (if ((x0 / 65536) % 256) < 256 then (some (wrap64 ((wrap64 (x2 + 16)) + (wrap64 (bt T ((x0 / 65536) % 256)))))) else (none)) else (none))) else (if x0 ≥ 256 then (if 0 ≤ ((x0 / 256) % 256) then (if ((x0 / 256) % 256) < 256 then (some (wrap64 ((wrap64 (x2 + 8)) + (wrap64 (bt T ((x0 / 256) % 256)))))) else (none)) else (none)) else (if 0 ≤ ((x0) % 256) then (if ((x0) % 256) < 256 then (some (wrap64 (x2 + (wrap64 (bt T ((x0) % 256)))))) else (none)) else (none)))
theorem bits_Len64.steps (T : ByteArray) (tab : ∀ i : Nat, i < 256 → bt T (i : Int) = ((blen i : Nat) : Int)) (n : Nat) (x : Nat) (hn : n ≤ 32) (hx : x < 4294967296) : bits_Len64.body T (x : Int) (n : Int) = some (((n + blen x : Nat) : Int)) := by
  have tb : ∀ (y : Nat), y < 256 → ((y : Int) % 256) = ((y : Nat) : Int) := fun y h => by omega
  have bl : ∀ (y : Nat), y < 256 → blen y ≤ 8 := fun y h => blen_le h
  unfold bits_Len64.body
  by_cases e1 : x ≥ 65536
  · rw [if_pos (by omega)]
    by_cases e2 : x / 65536 ≥ 256
    · have hb := blen_shift 24 x (by rw [show (2 : Nat) ^ 24 = 16777216 from rfl]; omega)
      rw [show (2 : Nat) ^ 24 = 16777216 from rfl] at hb
      have hl := bl (x / 16777216) (by omega)
      have he : ((x : Int) / 65536) / 256 % 256 = ((x / 16777216 : Nat) : Int) := by omega
      rw [if_pos (by omega), if_pos (by omega), if_pos (by omega), he, tab _ (by omega), wrap_id (x := (n : Int) + 16) (by omega) (by omega), wrap_id (x := (n : Int) + 16 + 8) (by omega) (by omega), wrap_id (x := ((blen (x / 16777216) : Nat) : Int)) (by omega) (by omega), wrap_id (by omega) (by omega), hb]
      congr 1
      omega
    · have hb := blen_shift 16 x (by rw [show (2 : Nat) ^ 16 = 65536 from rfl]; omega)
      rw [show (2 : Nat) ^ 16 = 65536 from rfl] at hb
      have hl := bl (x / 65536) (by omega)
      have he : ((x : Int) / 65536) % 256 = ((x / 65536 : Nat) : Int) := by omega
      rw [if_neg (by omega), if_pos (by omega), if_pos (by omega), he, tab _ (by omega), wrap_id (x := (n : Int) + 16) (by omega) (by omega), wrap_id (x := ((blen (x / 65536) : Nat) : Int)) (by omega) (by omega), wrap_id (by omega) (by omega), hb]
      congr 1
      omega
  · rw [if_neg (by omega)]
    by_cases e2 : x ≥ 256
    · have hb := blen_shift 8 x (by rw [show (2 : Nat) ^ 8 = 256 from rfl]; omega)
      rw [show (2 : Nat) ^ 8 = 256 from rfl] at hb
      have hl := bl (x / 256) (by omega)
      have he : ((x : Int) / 256) % 256 = ((x / 256 : Nat) : Int) := by omega
      rw [if_pos (by omega), if_pos (by omega), if_pos (by omega), he, tab _ (by omega), wrap_id (x := (n : Int) + 8) (by omega) (by omega), wrap_id (x := ((blen (x / 256) : Nat) : Int)) (by omega) (by omega), wrap_id (by omega) (by omega), hb]
      congr 1
      omega
    · have hl := bl x (by omega)
      have he : (x : Int) % 256 = (x : Int) := by omega
      rw [if_neg (by omega), if_pos (by omega), if_pos (by omega), he, tab _ (by omega), wrap_id (x := ((blen x : Nat) : Int)) (by omega) (by omega), wrap_id (by omega) (by omega)]
      congr 1
theorem bits_Len64.tail (k n : Nat) (x : Nat) (hn : n ≤ 32) (hx : x < 4294967296) : bits_Len64.j0 (k + 1) (x : Int) (n : Int) = some (((n + blen x : Nat) : Int)) :=
  bits_Len64.steps (⟨#[0, 1, 2, 2, 3, 3, 3, 3, 4, 4, 4, 4, 4, 4, 4, 4, 5, 5, 5, 5, 5, 5, 5, 5, 5, 5, 5, 5, 5, 5, 5, 5, 6, 6, 6, 6, 6, 6, 6, 6, 6, 6, 6, 6, 6, 6, 6, 6, 6, 6, 6, 6, 6, 6, 6, 6, 6, 6, 6, 6, 6, 6, 6, 6, 7, 7, 7, 7, 7, 7, 7, 7, 7, 7, 7, 7, 7, 7, 7, 7, 7, 7, 7, 7, 7, 7, 7, 7, 7, 7, 7, 7, 7, 7, 7, 7, 7, 7, 7, 7, 7, 7, 7, 7, 7, 7, 7, 7, 7, 7, 7, 7, 7, 7, 7, 7, 7, 7, 7, 7, 7, 7, 7, 7, 7, 7, 7, 7, 8, 8, 8, 8, 8, 8, 8, 8, 8, 8, 8, 8, 8, 8, 8, 8, 8, 8, 8, 8, 8, 8, 8, 8, 8, 8, 8, 8, 8, 8, 8, 8, 8, 8, 8, 8, 8, 8, 8, 8, 8, 8, 8, 8, 8, 8, 8, 8, 8, 8, 8, 8, 8, 8, 8, 8, 8, 8, 8, 8, 8, 8, 8, 8, 8, 8, 8, 8, 8, 8, 8, 8, 8, 8, 8, 8, 8, 8, 8, 8, 8, 8, 8, 8, 8, 8, 8, 8, 8, 8, 8, 8, 8, 8, 8, 8, 8, 8, 8, 8, 8, 8, 8, 8, 8, 8, 8, 8, 8, 8, 8, 8, 8, 8, 8, 8, 8, 8, 8, 8, 8, 8, 8, 8, 8, 8, 8, 8]⟩ : ByteArray) bits_Len64.tab n x hn hx
theorem bits_Len64.eq (k : Nat) (x : Nat) (hx : x < 2 ^ 64) : bits_Len64.f (k + 1) (x : Int) = some ((blen x : Nat) : Int) := by
  unfold bits_Len64.f
  by_cases e : x ≥ 4294967296
  · have hb := blen_shift 32 x (by rw [show (2 : Nat) ^ 32 = 4294967296 from rfl]; omega)
    rw [show (2 : Nat) ^ 32 = 4294967296 from rfl] at hb
    have := bits_Len64.tail k 32 (x / 4294967296) (by omega) (by omega)
    rw [if_pos (by omega), show (x : Int) / 4294967296 = ((x / 4294967296 : Nat) : Int) by omega]
    refine this.trans ?_
    rw [hb, Nat.add_comm]
  · have := bits_Len64.tail k 0 x (by omega) (by omega)
    rw [if_neg (by omega)]
    refine this.trans ?_
    rw [Nat.zero_add]

/-! bits_Len -/
theorem bits_Len.eq (k : Nat) (x : Nat) (hx : x < 2 ^ 64) : bits_Len.f (k + 1) (x : Int) = some ((blen x : Nat) : Int) := by
  unfold bits_Len.f
  rw [bits_Len64.eq k x hx]
  rfl

/-! impl_top -/
theorem impl_top.eq (k : Nat) (x : Nat) (hx : x < 2 ^ 63) : impl_top.f (k + 1) (x : Int) = some (pdeg x) := by
  have e : IntKind.u64.wrap (x : Int) = (x : Int) := by
    show (x : Int) % _ = _
    exact Int.emod_eq_of_lt (by omega) (by show (x : Int) < 18446744073709551616; omega)
  have hb : blen x ≤ 63 := blen_le hx
  unfold impl_top.f
  rw [e, bits_Len.eq k x (by omega), Option.bind_some, wrap_id (by omega) (by omega)]
  rfl

/-! impl_degree -/
theorem impl_degree.eq (k : Nat) (x : Nat) (hx : x < 2 ^ 63) : impl_degree.f (k + 1) (x : Int) = some (pdeg x) := by
  unfold impl_degree.f
  rw [impl_top.eq k x hx]
  rfl

/-! impl_apply -/
theorem impl_apply.loop (m : List Int) (s : Int) (n : Nat) (hn : n ≤ 62) (hm : ∀ x ∈ m, 0 ≤ x ∧ x < 2 ^ n) (h0 : 0 ≤ s) (h1 : s < 2 ^ 63) (hl : m.length < 4611686018427387904) (d : Nat) :
    ∀ (i : Nat) (o : Int), m.length - i = d → i ≤ m.length → 0 ≤ o → o < 2 ^ n → Ev (fun k => impl_apply.l0 k s o m (m.length : Int) (i : Int)) (applyGo s o i (m.drop i)) := by
  have hp := pow_le63 (n := n) (by omega)
  induction d with
  | zero =>
    intro i o hd hi ho0 ho1
    refine now fun k => ?_
    simp only [impl_apply.l0]
    rw [if_neg (by omega), List.drop_eq_nil_of_le (by omega)]
    rfl
  | succ d ih =>
    intro i o hd hi ho0 ho1
    have hlt : i < m.length := by omega
    have hx := hm m[i] (List.getElem_mem _)
    have hin := impl_has.eq s (i : Int) h0 h1 (by omega)
    rw [drop_cons m i hlt, applyGo]
    cases e : bit s (i : Int)
    · refine Ev.step (f := fun k => impl_apply.l0 k s o m (m.length : Int) ((i + 1 : Nat) : Int)) (fun k => ?_) (by simpa using ih (i + 1) o (by omega) (by omega) ho0 ho1)
      simp only [impl_apply.l0]
      rw [if_pos (by omega), if_pos (by omega), if_pos (by omega), hin, Option.bind_some, e, wrap_succ i (by omega)]
      rfl
    · refine Ev.step (f := fun k => impl_apply.l0 k s ((o.toNat ^^^ m[i].toNat : Nat) : Int) m (m.length : Int) ((i + 1 : Nat) : Int)) (fun k => ?_) (by simpa using ih (i + 1) _ (by omega) (by omega) (by omega) (xor_lt ho1 hx.2 ho0 hx.1))
      simp only [impl_apply.l0]
      rw [if_pos (by omega), if_pos (by omega), if_pos (by omega), hin, Option.bind_some, e, if_pos rfl, rd_get m i hlt, xor_eq ho0 (by omega) hx.1 (by omega), wrap_succ i (by omega)]
theorem impl_apply.ev (m : List Int) (s : Int) (n : Nat) (hn : n ≤ 62) (hm : ∀ x ∈ m, 0 ≤ x ∧ x < 2 ^ n) (h0 : 0 ≤ s) (h1 : s < 2 ^ 63) (hl : m.length < 4611686018427387904) : Ev (fun k => impl_apply.f k m s) (applyMap m s) :=
  impl_apply.loop m s n hn hm h0 h1 hl m.length 0 0 (by omega) (by omega) (by omega) (Int.pow_pos (by decide))

/-! impl_compose -/
theorem impl_compose.loop (a b : List Int) (n : Nat) (hn : n ≤ 16) (ha : ∀ x ∈ a, 0 ≤ x ∧ x < 2 ^ n) (hb : ∀ x ∈ b, 0 ≤ x ∧ x < 2 ^ n) (hla : a.length < 4611686018427387904) (hl : b.length ≤ 1048576) (d : Nat) :
    ∀ (i : Nat) (o : List Int), b.length - i = d → i ≤ b.length → o.length = i → Ev (fun k => impl_compose.l0 k a o b (b.length : Int) (i : Int)) (o ++ (b.drop i).map (applyMap a)) := by
  have h16 := pow16 hn
  induction d with
  | zero =>
    intro i o hd hi ho
    refine now fun k => ?_
    simp only [impl_compose.l0]
    rw [if_neg (by omega), List.drop_eq_nil_of_le (by omega), List.map_nil, List.append_nil]
  | succ d ih =>
    intro i o hd hi ho
    have hlt : i < b.length := by omega
    have hx := hb b[i] (List.getElem_mem _)
    rw [drop_cons b i hlt, List.map_cons]
    refine Ev.step (f := fun k => (impl_apply.f k a b[i]).bind fun t => impl_compose.l0 k a (o ++ [t]) b (b.length : Int) ((i + 1 : Nat) : Int)) (fun k => ?_) (Ev.bind (impl_apply.ev a b[i] n (by omega) ha hx.1 (by omega) hla) (by simpa using ih (i + 1) (o ++ [applyMap a b[i]]) (by omega) (by omega) (by simp [ho])))
    simp only [impl_compose.l0]
    rw [if_pos (by omega), if_pos (by omega), if_pos (by omega), rd_get b i hlt]
    simp only [if_pos (show o.length < 17592186044416 by omega), wrap_succ i (show i < 4611686018427387904 by omega)]
theorem impl_compose.ev (a b : List Int) (n : Nat) (hn : n ≤ 16) (ha : ∀ x ∈ a, 0 ≤ x ∧ x < 2 ^ n) (hb : ∀ x ∈ b, 0 ≤ x ∧ x < 2 ^ n) (hla : a.length < 4611686018427387904) (hl : b.length ≤ 1048576) : Ev (fun k => impl_compose.f k a b) (b.map (applyMap a)) := by
  have := impl_compose.loop a b n hn ha hb hla hl b.length 0 [] (by omega) (by omega) rfl
  rw [List.drop_zero, List.nil_append] at this
  exact this

/-! impl_addMaps -/
theorem impl_addMaps.loop (a b : List Int) (n : Nat) (hn : n ≤ 62) (hab : a.length = b.length) (ha : ∀ x ∈ a, 0 ≤ x ∧ x < 2 ^ n) (hb : ∀ x ∈ b, 0 ≤ x ∧ x < 2 ^ n) (hl : a.length ≤ 1048576) (d : Nat) :
    ∀ (i : Nat) (o : List Int), a.length - i = d → i ≤ a.length → o = addSets (a.take i) (b.take i) → Ev (fun k => impl_addMaps.l0 k b o a (a.length : Int) (i : Int)) (addSets a b) := by
  have hp := pow_le63 (n := n) (by omega)
  induction d with
  | zero =>
    intro i o hd hi ho
    refine now fun k => ?_
    simp only [impl_addMaps.l0]
    rw [if_neg (by omega), ho, List.take_of_length_le (by omega), List.take_of_length_le (by omega)]
  | succ d ih =>
    intro i o hd hi ho
    have hlt : i < a.length := by omega
    have hltb : i < b.length := by omega
    have hx := ha a[i] (List.getElem_mem _)
    have hy := hb b[i] (List.getElem_mem _)
    have hol : o.length ≤ i := by rw [ho]; simp [addSets]; omega
    refine Ev.step (f := fun k => impl_addMaps.l0 k b (o ++ [((a[i].toNat ^^^ b[i].toNat : Nat) : Int)]) a (a.length : Int) ((i + 1 : Nat) : Int)) (fun k => ?_) (ih (i + 1) _ (by omega) (by omega) ?_)
    · simp only [impl_addMaps.l0]
      rw [if_pos (by omega), if_pos (by omega), if_pos (by omega), if_pos (by omega), if_pos (by omega), rd_get a i hlt, rd_get b i hltb, xor_eq hx.1 (by omega) hy.1 (by omega), wrap_succ i (by omega)]
    · rw [ho]
      exact addSets_snoc a b i hlt hltb
theorem impl_addMaps.ev (a b : List Int) (n : Nat) (hn : n ≤ 62) (hab : a.length = b.length) (ha : ∀ x ∈ a, 0 ≤ x ∧ x < 2 ^ n) (hb : ∀ x ∈ b, 0 ≤ x ∧ x < 2 ^ n) (hl : a.length ≤ 1048576) : Ev (fun k => impl_addMaps.f k a b) (addSets a b) :=
  impl_addMaps.loop a b n hn hab ha hb hl a.length 0 [] (by omega) (by omega) (by simp [addSets])

/-! impl_mapOfPoly -/
theorem impl_mapOfPoly.loop (m : List Int) (hn : m.length ≤ 16) (hm : ∀ x ∈ m, 0 ≤ x ∧ x < 2 ^ m.length) (p : Nat) (hp : p < 2 ^ 62) (k : Nat) : ∀ (o : List Int), k ≤ 62 → o.length = m.length → (∀ x ∈ o, 0 ≤ x ∧ x < 2 ^ m.length) → Ev (fun n => impl_mapOfPoly.l0 n m (p : Int) o (oneMap m.length) ((k : Int) - 1)) (polyGo m p k o) := by
  induction k with
  | zero =>
    intro o hk hl ho
    refine now fun n => ?_
    simp only [impl_mapOfPoly.l0]
    rw [if_neg (by omega)]
    rfl
  | succ k ih =>
    intro o hk hl ho
    have hh := impl_has.eq (p : Int) (k : Int) (by omega) (by omega) (by omega)
    rw [show bit (p : Int) (k : Int) = p.testBit k from rfl] at hh
    have hb := step_bounds m hm o (p.testBit k) hl
    have ih' := ih _ (by omega) hb.2.2 hb.2.1
    obtain ⟨K1, hK1⟩ := impl_compose.ev m o m.length hn hm ho (by omega) (by omega)
    have hlen : (o.map (applyMap m)).length = m.length := by rw [List.length_map, hl]
    cases e : p.testBit k
    · rw [e, if_neg (by decide)] at ih'
      obtain ⟨K2, hK2⟩ := ih'
      refine ⟨K1 + K2 + 1, fun n hnn => ?_⟩
      obtain ⟨j, rfl⟩ : ∃ j, n = j + 1 := ⟨n - 1, by omega⟩
      have c1 : impl_compose.f j m o = _ := hK1 j (by omega)
      have c3 := hK2 j (by omega)
      simp only [impl_mapOfPoly.l0, polyGo]
      rw [if_pos (by omega), show ((k + 1 : Nat) : Int) - 1 = (k : Int) by omega, c1, Option.bind_some, hh, Option.bind_some, e, if_neg (by decide), if_neg (by decide), wrap_id (by omega) (by omega)]
      exact c3
    · rw [e, if_pos rfl] at ih'
      obtain ⟨K2, hK2⟩ := ih'
      obtain ⟨K3, hK3⟩ := impl_addMaps.ev (o.map (applyMap m)) (oneMap m.length) m.length (by omega) (by rw [hlen, oneMap_length]) hb.1 (oneMap_bounds m.length) (by omega)
      refine ⟨K1 + K2 + K3 + 1, fun n hnn => ?_⟩
      obtain ⟨j, rfl⟩ : ∃ j, n = j + 1 := ⟨n - 1, by omega⟩
      have c1 : impl_compose.f j m o = _ := hK1 j (by omega)
      have c3 := hK2 j (by omega)
      have c4 : impl_addMaps.f j (o.map (applyMap m)) (oneMap m.length) = _ := hK3 j (by omega)
      simp only [impl_mapOfPoly.l0, polyGo]
      rw [if_pos (by omega), show ((k + 1 : Nat) : Int) - 1 = (k : Int) by omega, c1, Option.bind_some, hh, Option.bind_some, e, if_pos rfl, c4, Option.bind_some, wrap_id (by omega) (by omega)]
      rw [if_pos rfl]
      exact c3
theorem impl_mapOfPoly.ev (m : List Int) (hn : m.length ≤ 16) (hm : ∀ x ∈ m, 0 ≤ x ∧ x < 2 ^ m.length) (p : Nat) (hp : p < 2 ^ 62) : Ev (fun n => impl_mapOfPoly.f n m (p : Int)) (polyMap m p) := by
  obtain ⟨K, hK⟩ := ev_and (impl_sameMap.ev m.length (by omega)) (impl_mapOfPoly.loop m hn hm p hp (blen p) (List.replicate m.length 0) (blen_le hp) (by simp) (zeros_bounds _ _))
  refine ⟨K + 1, fun n hnn => ?_⟩
  obtain ⟨j, rfl⟩ : ∃ j, n = j + 1 := ⟨n - 1, by omega⟩
  obtain ⟨c1, c2⟩ := hK (j + 1) (by omega)
  show impl_mapOfPoly.f (j + 1) m (p : Int) = _
  unfold impl_mapOfPoly.f
  rw [if_pos (by omega), if_pos (by omega), c1, Option.bind_some, impl_degree.eq j p (by omega), Option.bind_some, Int.toNat_natCast]
  exact c2

/-! impl_MapOfPoly -/
theorem impl_MapOfPoly.ev (m : List Int) (p : Int) (h : m.length ≤ 1048576) : Ev (fun k => impl_MapOfPoly.f k m p) (if (goodMap m && isPoly p) = true then (polyMap m p.toNat, true) else (([] : List Int), false)) := by
  have a1 : impl_isMap.f [m] = some (goodMap m) := by rw [impl_isMap.eq]; simp
  have a2 : impl_isPoly.f [p] = some (isPoly p) := by rw [impl_isPoly.eq]; simp
  cases e1 : goodMap m
  · refine always fun k => ?_
    unfold impl_MapOfPoly.f
    rw [a1, Option.bind_some, e1]
    rfl
  · cases e2 : isPoly p
    · refine always fun k => ?_
      unfold impl_MapOfPoly.f
      rw [a1, Option.bind_some, e1, if_pos rfl, a2, Option.bind_some, e2]
      rfl
    · have g := goodMap_sets e1
      have hp : 0 ≤ p ∧ p ≤ 2199023255551 := by simpa [isPoly] using e2
      obtain ⟨K2, hK2⟩ := impl_mapOfPoly.ev m g.2.1 g.2.2 p.toNat (by omega)
      refine ⟨K2, fun k hk => ?_⟩
      have h2 : impl_mapOfPoly.f k m (p.toNat : Int) = _ := hK2 k (by omega)
      rw [Int.toNat_of_nonneg hp.1] at h2
      show impl_MapOfPoly.f k m p = _
      unfold impl_MapOfPoly.f
      rw [a1, Option.bind_some, e1, if_pos rfl, a2, Option.bind_some, e2, if_pos rfl, h2, Option.bind_some]
      rfl
end Go.Proofs.Ytcdphbpbfmjheaa.Pure
