/- What the functions of FnExactNullityOfMap compute, in plain words. -/
import Derived.Test.YtcdphbpbfmjheaaPFnExactNullityOfMapx8
import Derived.Test.YtcdphbpbfmjheaaM1
import Derived.Test.YtcdphbpbfmjheaaM2
import Derived.Test.YtcdphbpbfmjheaaM4
import Derived.Test.YtcdphbpbfmjheaaM6
namespace Go.Proofs.Ytcdphbpbfmjheaa.Pure
open Go.RowKit Go.Proofs.Ytcdphbpbfmjheaa.PFnExactNullityOfMap Go.Proofs.YtcdphbpbfmjheaaW.PrintWords Go.Proofs.YtcdphbpbfmjheaaW.PrintLast Go.Proofs.YtcdphbpbfmjheaaW.PrintMore Go.Proofs.YtcdphbpbfmjheaaM
set_option linter.unusedVariables false
set_option linter.unusedSimpArgs false
/-! laws_toIntS -/
theorem laws_toIntS.loop (a : List Int) (h : a.length < 4611686018427387904) (d : Nat) : ∀ (i : Nat) (o : List Int), a.length - i = d → i ≤ a.length → o.length = a.length → o.take i = a.take i → Ev (fun k => laws_toIntS.l0 k a o (i : Int)) a := by
  induction d with
  | zero =>
    intro i o hd hi ho ht
    have e : o = a := by
      have : i = a.length := by omega
      subst this
      rw [List.take_length, List.take_of_length_le (by omega)] at ht
      exact ht
    subst e
    refine now fun k => ?_
    simp only [laws_toIntS.l0]
    rw [if_neg (by omega)]
  | succ d ih =>
    intro i o hd hi ho ht
    have hlt : i < a.length := by omega
    refine Ev.step (f := fun k => laws_toIntS.l0 k a (o.set i a[i]) ((i + 1 : Nat) : Int)) (fun k => ?_) (ih (i + 1) (o.set i a[i]) (by omega) (by omega) (by rw [List.length_set]; exact ho) ?_)
    · simp only [laws_toIntS.l0]
      rw [if_pos (by omega), if_pos (by omega), if_pos (by omega), rd_get a i hlt, wrap_succ i (by omega)]
      rfl
    · rw [List.take_succ_eq_append_getElem (by simp [ho, hlt]), List.take_succ_eq_append_getElem hlt]
      simp [List.take_set_of_le, ht]
theorem laws_toIntS.ev (a : List Int) (h : a.length ≤ 35184372088832) : Ev (fun k => laws_toIntS.f k a) a := by
  refine Ev.congr (f := fun k => laws_toIntS.l0 k a (List.replicate a.length 0) ((0 : Nat) : Int)) (fun k => ?_) (laws_toIntS.loop a (by omega) a.length 0 _ (by omega) (by omega) (by simp) (by simp))
  unfold laws_toIntS.f
  rw [if_pos (by omega), if_pos (by omega)]
  rfl

/-! laws_eqIntS -/
theorem laws_eqIntS.loop (a b : List Int) (hl : a.length = b.length) (h : a.length < 4611686018427387904) (d : Nat) : ∀ i : Nat, a.length - i = d → i ≤ a.length → Ev (fun k => laws_eqIntS.l0 k a b (i : Int)) (decide (a.drop i = b.drop i)) := by
  induction d with
  | zero =>
    intro i hd hi
    refine now fun k => ?_
    simp only [laws_eqIntS.l0]
    rw [if_neg (by omega), List.drop_eq_nil_of_le (by omega), List.drop_eq_nil_of_le (by omega)]
    rfl
  | succ d ih =>
    intro i hd hi
    have hlt : i < a.length := by omega
    have hltb : i < b.length := by omega
    rw [drop_cons a i hlt, drop_cons b i hltb]
    by_cases e : a[i] = b[i]
    · have := ih (i + 1) (by omega) (by omega)
      refine Ev.step (f := fun k => laws_eqIntS.l0 k a b ((i + 1 : Nat) : Int)) (fun k => ?_) (by rw [show decide (a[i] :: a.drop (i + 1) = b[i] :: b.drop (i + 1)) = decide (a.drop (i + 1) = b.drop (i + 1)) by simp only [List.cons.injEq, e, true_and]]; exact this)
      simp only [laws_eqIntS.l0]
      rw [if_pos (by omega), if_pos (by omega), if_pos (by omega), rd_get a i hlt, rd_get b i hltb, if_pos e, wrap_succ i (by omega)]
    · refine now fun k => ?_
      simp only [laws_eqIntS.l0]
      rw [if_pos (by omega), if_pos (by omega), if_pos (by omega), rd_get a i hlt, rd_get b i hltb, if_neg e, show decide (a[i] :: a.drop (i + 1) = b[i] :: b.drop (i + 1)) = false by simp only [List.cons.injEq, e, false_and, decide_false]]
theorem laws_eqIntS.ev (a b : List Int) (h : a.length < 4611686018427387904) : Ev (fun k => laws_eqIntS.f k a b) (decide (a = b)) := by
  by_cases hl : a.length = b.length
  · have := laws_eqIntS.loop a b hl h a.length 0 (by omega) (by omega)
    refine Ev.congr (f := fun k => laws_eqIntS.l0 k a b ((0 : Nat) : Int)) (fun k => ?_) (by simpa using this)
    unfold laws_eqIntS.f
    rw [if_pos (by omega)]
    rfl
  · refine always fun k => ?_
    unfold laws_eqIntS.f
    rw [if_neg (by omega)]
    have : ¬ a = b := fun e => hl (by rw [e])
    simp [this]

/-! spec_l1In -/
theorem spec_l1In.eq (x a b : Int) : spec_l1In.f x a b = some (decide (a ≤ x) && decide (x ≤ b)) := by
  unfold spec_l1In.f
  by_cases h : a ≤ x
  · rw [if_pos (by omega)]; simp [h]
  · rw [if_neg (by omega)]; simp [h]

/-! spec_l1All -/
theorem spec_l1All.loop (l : List Int) (a b : Int) (h : l.length < 4611686018427387904) (d : Nat) : ∀ i : Nat, l.length - i = d → i ≤ l.length → Ev (fun k => spec_l1All.l0 k a b l (l.length : Int) (i : Int)) ((l.drop i).all fun x => decide (a ≤ x) && decide (x ≤ b)) := by
  induction d with
  | zero =>
    intro i hd hi
    refine now fun k => ?_
    simp only [spec_l1All.l0]
    rw [if_neg (by omega), List.drop_eq_nil_of_le (by omega)]
    rfl
  | succ d ih =>
    intro i hd hi
    have hlt : i < l.length := by omega
    rw [drop_cons l i hlt, List.all_cons]
    by_cases e : (decide (a ≤ l[i]) && decide (l[i] ≤ b)) = true
    · refine Ev.step (f := fun k => spec_l1All.l0 k a b l (l.length : Int) ((i + 1 : Nat) : Int)) (fun k => ?_) (by rw [e, Bool.true_and]; exact ih (i + 1) (by omega) (by omega))
      simp only [spec_l1All.l0]
      rw [if_pos (by omega), if_pos (by omega), if_pos (by omega), rd_get l i hlt, spec_l1In.eq, e, wrap_succ i (by omega)]
      rfl
    · refine now fun k => ?_
      simp only [spec_l1All.l0]
      replace e := Bool.eq_false_iff.mpr e
      rw [if_pos (by omega), if_pos (by omega), if_pos (by omega), rd_get l i hlt, spec_l1In.eq, e]
      rfl
theorem spec_l1All.ev (l : List Int) (a b : Int) (h : l.length < 4611686018427387904) : Ev (fun k => spec_l1All.f k l a b) (l.all fun x => decide (a ≤ x) && decide (x ≤ b)) :=
  spec_l1All.loop l a b h l.length 0 (by omega) (by omega)

/-! spec_grSize -/
theorem spec_grSize.eq (x : Int) : spec_grSize.f x = some (decide (1 ≤ x) && decide (x ≤ 16)) := by unfold spec_grSize.f; rw [spec_l1In.eq]; rfl

/-! spec_prGood -/
theorem spec_prGood.ev (m : List Int) (h : m.length < 4611686018427387904) : Ev (fun k => spec_prGood.f k m) (goodMap m) := by
  unfold goodMap
  by_cases hn : 1 ≤ m.length ∧ m.length ≤ 16
  · have e1 : spec_grSize.f (m.length : Int) = some true := by rw [spec_grSize.eq, decide_eq_true (by omega), decide_eq_true (by omega)]; rfl
    obtain ⟨K, hK⟩ := spec_l1All.ev m 0 (wrap64 ((shl .i64 1 (m.length : Int)) - 1)) h
    refine ⟨K, fun k hk => ?_⟩
    have h1 : spec_l1All.f k m 0 (wrap64 ((shl .i64 1 (m.length : Int)) - 1)) = _ := hK k hk
    show spec_prGood.f k m = _
    unfold spec_prGood.f
    rw [e1, Option.bind_some, if_pos rfl, h1, Option.bind_some, decide_eq_true hn, Bool.true_and, whole_eq (by omega) (by omega)]
    congr 2
    funext x
    rw [inSet_eq]
  · have e1 : spec_grSize.f (m.length : Int) = some false := by
      rw [spec_grSize.eq]
      congr 1
      rw [Bool.and_eq_false_iff, decide_eq_false_iff_not, decide_eq_false_iff_not]
      omega
    refine always fun k => ?_
    unfold spec_prGood.f
    rw [e1, Option.bind_some, if_neg (by decide), decide_eq_false hn, Bool.false_and]

/-! spec_grIn -/
theorem spec_grIn.eq (x i : Int) (hx : 0 ≤ x) (hx1 : x < 2 ^ 63) (hi : 0 ≤ i) : spec_grIn.f x i = some (bit x i) := by unfold spec_grIn.f; rw [if_pos hi, in_bit hx hx1 hi]

/-! spec_soTop -/
theorem spec_soTop.loop : ∀ (n : Nat) (x : Nat) (o : Int), blen x = n → n ≤ 63 → -1 ≤ o → o + n ≤ 100 → Ev (fun k => spec_soTop.l0 k (x : Int) o) (o + n)
  | 0, x, o, hn, _, h0, h1 => by
    have : x = 0 := by
      by_cases e : x = 0
      · exact e
      · rw [blen_pos e] at hn; omega
    subst this
    refine now fun k => ?_
    simp only [spec_soTop.l0]
    rw [if_neg (by decide)]
    simp
  | n + 1, x, o, hn, h63, h0, h1 => by
    have hb : x < 2 ^ 63 := lt_of_blen (by omega)
    have hx : x ≠ 0 := fun e => by rw [e, blen_zero] at hn; omega
    rw [blen_pos hx] at hn
    have ih := spec_soTop.loop n (x / 2) (o + 1) (by omega) (by omega) (by omega) (by omega)
    rw [show o + 1 + (n : Int) = o + ((n + 1 : Nat) : Int) by omega] at ih
    refine Ev.step (f := fun k => spec_soTop.l0 k ((x / 2 : Nat) : Int) (o + 1)) (fun k => ?_) ih
    simp only [spec_soTop.l0]
    rw [if_pos (by omega), Int.tdiv_eq_ediv_of_nonneg (by omega), wrap_id (by omega) (by omega), wrap_id (by omega) (by omega), show (x : Int) / 2 = ((x / 2 : Nat) : Int) by omega]
theorem spec_soTop.ev (x : Nat) (hx : x < 2 ^ 63) : Ev (fun k => spec_soTop.f k (x : Int)) (pdeg x) := by
  have hb : blen x ≤ 63 := blen_le hx
  have := spec_soTop.loop (blen x) x (-1) rfl hb (by omega) (by omega)
  rw [show (-1 : Int) + (blen x : Int) = pdeg x by unfold pdeg; omega] at this
  exact this

/-! spec_soReduce -/
theorem spec_soReduce.loop (l : List Nat) (hl : ∀ b ∈ l, b < 2 ^ 62 ∧ b ≠ 0) (hn : l.length ≤ 1048576) : ∀ (i s : Nat), i ≤ l.length → s < 2 ^ 62 → Ev (fun k => spec_soReduce.l0 k (ints l) (s : Int) ((i : Int) - 1)) (red (l.take i) s : Int)
  | 0, s, _, _ => by
    refine now fun k => ?_
    simp only [spec_soReduce.l0]
    rw [if_neg (by omega)]
    rfl
  | i + 1, s, hi, hs => by
    have hb := hl l[i] (List.getElem_mem (by omega))
    have h1 := blen_ne hb.2
    have ih := spec_soReduce.loop l hl hn i (redOne s l[i]) (by omega) (redOne_lt hs hb.1)
    have e0 : red (l.take (i + 1)) s = red (l.take i) (redOne s l[i]) := by
      rw [List.take_succ_eq_append_getElem (by omega)]
      unfold red
      rw [List.foldr_append]
      rfl
    rw [e0]
    obtain ⟨K, hK⟩ := ev_and (spec_soTop.ev l[i] (by omega)) ih
    refine ⟨K + 1, fun k hk => ?_⟩
    obtain ⟨j, rfl⟩ : ∃ j, k = j + 1 := ⟨k - 1, by omega⟩
    obtain ⟨c1, c2⟩ := hK j (by omega)
    have e1 : bit (s : Int) (pdeg l[i]) = s.testBit (blen l[i] - 1) := by
      unfold bit pdeg
      rw [show ((blen l[i] : Int) - 1).toNat = blen l[i] - 1 by omega]
      rfl
    show spec_soReduce.l0 (j + 1) (ints l) (s : Int) (((i + 1 : Nat) : Int) - 1) = _
    simp only [spec_soReduce.l0]
    rw [show (((i + 1 : Nat) : Int) - 1) = (i : Int) by omega, if_pos (by omega), if_pos (by omega), if_pos (by rw [ints_length]; omega), ints_get l i (by omega), c1, Option.bind_some, spec_grIn.eq (s : Int) (pdeg l[i]) (by omega) (by omega) (by unfold pdeg; omega), Option.bind_some, e1, wrap_id (by omega) (by omega)]
    by_cases e : s.testBit (blen l[i] - 1) = true
    · have er : redOne s l[i] = s ^^^ l[i] := if_pos e
      rw [er] at c2 ⊢
      rw [if_pos e, xor_nat s l[i] (by omega) (by omega)]
      exact c2
    · have er : redOne s l[i] = s := if_neg e
      rw [er] at c2 ⊢
      rw [if_neg e]
      exact c2
theorem spec_soReduce.ev (l : List Nat) (hl : ∀ b ∈ l, b < 2 ^ 62 ∧ b ≠ 0) (hn : l.length ≤ 1048576) (s : Nat) (hs : s < 2 ^ 62) : Ev (fun k => spec_soReduce.f k (ints l) (s : Int)) (red l s : Int) := by
  have h := spec_soReduce.loop l hl hn l.length s (Nat.le_refl _) hs
  rw [List.take_length] at h
  refine Ev.congr (f := fun k => spec_soReduce.l0 k (ints l) (s : Int) ((l.length : Int) - 1)) (fun k => ?_) h
  unfold spec_soReduce.f
  rw [ints_length, wrap_id (by omega) (by omega)]

/-! spec_soPut -/
theorem spec_soPut.high (l : List Nat) (hl : ∀ b ∈ l, b < 2 ^ 62) (hn : l.length ≤ 1048576) (t : Nat) (ht : t < 2 ^ 62) (h0 : t ≠ 0) (d : Nat) :
    ∀ (i : Nat) (o : List Nat), l.length - i = d → i ≤ l.length → o.length ≤ 2097152 + i → Ev (fun k => spec_soPut.l1 k (t : Int) (pdeg t) (ints o) (ints l) (l.length : Int) (i : Int)) (ints (o ++ ((l.drop i).filter (fun b => decide (blen t < blen b))).map (putOne t))) := by
  have h1 := blen_ne h0
  induction d with
  | zero =>
    intro i o hd hi ho
    refine now fun k => ?_
    simp only [spec_soPut.l1]
    rw [if_neg (by omega), List.drop_eq_nil_of_le (by omega)]
    simp
  | succ d ih =>
    intro i o hd hi ho
    have hlt : i < l.length := by omega
    have hb := hl l[i] (List.getElem_mem hlt)
    rw [drop_cons l i hlt, List.filter_cons]
    by_cases e : blen t < blen l[i]
    · rw [if_pos (by simpa using e), List.map_cons]
      obtain ⟨K, hK⟩ := ev_and (spec_soTop.ev l[i] (by omega)) (ih (i + 1) (o ++ [putOne t l[i]]) (by omega) (by omega) (by simp; omega))
      refine ⟨K + 1, fun k hk => ?_⟩
      obtain ⟨j, rfl⟩ : ∃ j, k = j + 1 := ⟨k - 1, by omega⟩
      obtain ⟨c1, c2⟩ := hK j (by omega)
      have e1 : bit (l[i] : Int) (pdeg t) = l[i].testBit (blen t - 1) := by
        unfold bit pdeg
        rw [show ((blen t : Int) - 1).toNat = blen t - 1 by omega]
        rfl
      show spec_soPut.l1 (j + 1) (t : Int) (pdeg t) (ints o) (ints l) (l.length : Int) (i : Int) = _
      simp only [spec_soPut.l1]
      rw [if_pos (by omega), if_pos (by omega), if_pos (by rw [ints_length]; omega), ints_get l i hlt, c1, Option.bind_some, if_pos (by unfold pdeg; omega), spec_grIn.eq (l[i] : Int) (pdeg t) (by omega) (by omega) (by unfold pdeg; omega), Option.bind_some, e1]
      simp only [if_pos (show (ints o).length < 17592186044416 by rw [ints_length]; omega), wrap_succ i (show i < 4611686018427387904 by omega)]
      rw [ints_append] at c2
      rw [List.append_assoc, List.singleton_append] at c2
      by_cases e2 : l[i].testBit (blen t - 1) = true
      · have er : putOne t l[i] = l[i] ^^^ t := if_pos e2
        rw [er] at c2 ⊢
        rw [if_pos e2, xor_nat l[i] t (by omega) (by omega)]
        exact c2
      · have er : putOne t l[i] = l[i] := if_neg e2
        rw [er] at c2 ⊢
        rw [if_neg e2]
        exact c2
    · rw [if_neg (by simpa using e)]
      obtain ⟨K, hK⟩ := ev_and (spec_soTop.ev l[i] (by omega)) (ih (i + 1) o (by omega) (by omega) (by omega))
      refine ⟨K + 1, fun k hk => ?_⟩
      obtain ⟨j, rfl⟩ : ∃ j, k = j + 1 := ⟨k - 1, by omega⟩
      obtain ⟨c1, c2⟩ := hK j (by omega)
      show spec_soPut.l1 (j + 1) (t : Int) (pdeg t) (ints o) (ints l) (l.length : Int) (i : Int) = _
      simp only [spec_soPut.l1]
      rw [if_pos (by omega), if_pos (by omega), if_pos (by rw [ints_length]; omega), ints_get l i hlt, c1, Option.bind_some, if_neg (by unfold pdeg; omega), wrap_succ i (by omega)]
      exact c2
theorem spec_soPut.low (l : List Nat) (hl : ∀ b ∈ l, b < 2 ^ 62) (hn : l.length ≤ 1048576) (t : Nat) (ht : t < 2 ^ 62) (h0 : t ≠ 0) (d : Nat) :
    ∀ (i : Nat) (o : List Nat), l.length - i = d → i ≤ l.length → o.length ≤ i → Ev (fun k => spec_soPut.l0 k (ints l) (t : Int) (pdeg t) (ints o) (ints l) (l.length : Int) (i : Int)) (ints (o ++ (l.drop i).filter (fun b => decide (blen b < blen t)) ++ [t] ++ (l.filter (fun b => decide (blen t < blen b))).map (putOne t))) := by
  have h1 := blen_ne h0
  induction d with
  | zero =>
    intro i o hd hi ho
    have hh := spec_soPut.high l hl hn t ht h0 l.length 0 (o ++ [t]) (by omega) (by omega) (by simp; omega)
    rw [List.drop_zero, ints_append] at hh
    refine Ev.step (f := fun k => spec_soPut.l1 k (t : Int) (pdeg t) (ints o ++ ints [t]) (ints l) (l.length : Int) ((0 : Nat) : Int)) (fun k => ?_) (by rw [List.drop_eq_nil_of_le (by omega)]; simpa using hh)
    simp only [spec_soPut.l0]
    rw [if_neg (by omega), if_pos (by rw [ints_length]; omega), ints_length]
    rfl
  | succ d ih =>
    intro i o hd hi ho
    have hlt : i < l.length := by omega
    have hb := hl l[i] (List.getElem_mem hlt)
    rw [drop_cons l i hlt, List.filter_cons]
    by_cases e : blen l[i] < blen t
    · rw [if_pos (by simpa using e)]
      obtain ⟨K, hK⟩ := ev_and (spec_soTop.ev l[i] (by omega)) (ih (i + 1) (o ++ [l[i]]) (by omega) (by omega) (by simp; omega))
      refine ⟨K + 1, fun k hk => ?_⟩
      obtain ⟨j, rfl⟩ : ∃ j, k = j + 1 := ⟨k - 1, by omega⟩
      obtain ⟨c1, c2⟩ := hK j (by omega)
      show spec_soPut.l0 (j + 1) (ints l) (t : Int) (pdeg t) (ints o) (ints l) (l.length : Int) (i : Int) = _
      simp only [spec_soPut.l0]
      rw [if_pos (by omega), if_pos (by omega), if_pos (by rw [ints_length]; omega), ints_get l i hlt, c1, Option.bind_some, if_pos (by unfold pdeg; omega), if_pos (by rw [ints_length]; omega), wrap_succ i (by omega)]
      rw [ints_append, List.append_assoc o, List.singleton_append] at c2
      exact c2
    · rw [if_neg (by simpa using e)]
      obtain ⟨K, hK⟩ := ev_and (spec_soTop.ev l[i] (by omega)) (ih (i + 1) o (by omega) (by omega) (by omega))
      refine ⟨K + 1, fun k hk => ?_⟩
      obtain ⟨j, rfl⟩ : ∃ j, k = j + 1 := ⟨k - 1, by omega⟩
      obtain ⟨c1, c2⟩ := hK j (by omega)
      show spec_soPut.l0 (j + 1) (ints l) (t : Int) (pdeg t) (ints o) (ints l) (l.length : Int) (i : Int) = _
      simp only [spec_soPut.l0]
      rw [if_pos (by omega), if_pos (by omega), if_pos (by rw [ints_length]; omega), ints_get l i hlt, c1, Option.bind_some, if_neg (by unfold pdeg; omega), wrap_succ i (by omega)]
      exact c2
theorem spec_soPut.ev (l : List Nat) (s : Nat) (hs : s < 2 ^ 62) (hl : ∀ b ∈ l, b < 2 ^ 62) (hB : Basis l) (hn : l.length ≤ 1048576) : Ev (fun k => spec_soPut.f k (ints l) (s : Int)) (ints (put l s)) := by
  have hr := red_lt l s hl hs
  obtain ⟨K1, hK1⟩ := spec_soReduce.ev l (fun b hb => ⟨hl b hb, hB.pos b hb⟩) hn s hs
  unfold put
  by_cases hz : red l s = 0
  · rw [if_pos hz]
    refine ⟨K1, fun k hk => ?_⟩
    have c1 : spec_soReduce.f k (ints l) (s : Int) = _ := hK1 k hk
    show spec_soPut.f k (ints l) (s : Int) = _
    unfold spec_soPut.f
    rw [c1, Option.bind_some, if_pos (by omega)]
  · rw [if_neg hz]
    obtain ⟨K2, hK2⟩ := ev_and (spec_soTop.ev (red l s) (by omega)) (spec_soPut.low l hl hn (red l s) hr hz l.length 0 [] (by omega) (by omega) (by simp))
    refine ⟨K1 + K2, fun k hk => ?_⟩
    have c1 : spec_soReduce.f k (ints l) (s : Int) = _ := hK1 k (by omega)
    obtain ⟨c2, c3⟩ := hK2 k (by omega)
    show spec_soPut.f k (ints l) (s : Int) = _
    unfold spec_soPut.f
    rw [c1, Option.bind_some, if_neg (by omega), c2, Option.bind_some, ints_length]
    rw [List.drop_zero, List.nil_append] at c3
    exact c3

/-! spec_prNullity -/
theorem spec_prNullity.loop (m : List Nat) (hm : ∀ x ∈ m, x < 2 ^ 62) (hl : m.length ≤ 1000) (d : Nat) :
    ∀ (i : Nat) (b : List Nat), m.length - i = d → i ≤ m.length → b = puts [] (m.take i) → Ev (fun k => spec_prNullity.l0 k (ints m) (ints b) (ints m) (m.length : Int) (i : Int)) (nulMap m) := by
  induction d with
  | zero =>
    intro i b hd hi hb
    have hbl := puts_length_le (m.take i) []
    rw [List.take_of_length_le (by omega)] at hb hbl
    refine now fun k => ?_
    simp only [spec_prNullity.l0]
    rw [if_neg (by omega), ints_length, ints_length, hb]
    simp only [List.length_nil] at hbl
    rw [wrap_id (by omega) (by omega)]
    rfl
  | succ d ih =>
    intro i b hd hi hb
    have hlt : i < m.length := by omega
    have hB : Basis b := by rw [hb]; exact puts_basis _ basis_nil
    have hlo : ∀ x ∈ b, x < 2 ^ 62 := by rw [hb]; exact puts_lt _ (fun x hx => by simp at hx) (fun x hx => hm x (List.mem_of_mem_take hx))
    have hbl : b.length ≤ 1000 := by
      have := puts_length_le (m.take i) []
      rw [← hb] at this
      simp at this
      omega
    obtain ⟨K, hK⟩ := ev_and (spec_soPut.ev b m[i] (hm _ (List.getElem_mem hlt)) hlo hB (by omega)) (ih (i + 1) (put b m[i]) (by omega) (by omega) (by rw [List.take_succ_eq_append_getElem hlt, hb]; unfold puts; rw [List.foldl_append]; rfl))
    refine ⟨K + 1, fun k hk => ?_⟩
    obtain ⟨j, rfl⟩ : ∃ j, k = j + 1 := ⟨k - 1, by omega⟩
    obtain ⟨c1, c2⟩ := hK j (by omega)
    show spec_prNullity.l0 (j + 1) (ints m) (ints b) (ints m) (m.length : Int) (i : Int) = _
    simp only [spec_prNullity.l0]
    rw [if_pos (by omega), if_pos (by omega), if_pos (by rw [ints_length]; omega), ints_get m i hlt, c1, Option.bind_some, wrap_succ i (by omega)]
    exact c2
theorem spec_prNullity.ev (m : List Nat) (hm : ∀ x ∈ m, x < 2 ^ 62) (hl : m.length ≤ 1000) : Ev (fun k => spec_prNullity.f k (ints m)) (nulMap m) := by
  have h := spec_prNullity.loop m hm hl m.length 0 [] (by omega) (by omega) rfl
  refine Ev.congr (f := fun k => spec_prNullity.l0 k (ints m) (ints []) (ints m) (m.length : Int) ((0 : Nat) : Int)) (fun k => ?_) h
  unfold spec_prNullity.f
  rw [ints_length]
  rfl

/-! spec_NullityOfMap -/
theorem spec_NullityOfMap.ev (m : List Int) (h : m.length ≤ 1048576) : Ev (fun k => spec_NullityOfMap.f k m) (if goodMap m = true then (nulMap (m.map Int.toNat), true) else (0, false)) := by
  obtain ⟨K1, hK1⟩ := spec_prGood.ev m (by omega)
  cases e1 : goodMap m
  · refine ⟨K1, fun k hk => ?_⟩
    have a1 : spec_prGood.f k m = _ := hK1 k hk
    show spec_NullityOfMap.f k m = _
    unfold spec_NullityOfMap.f
    rw [a1, Option.bind_some, e1]
    rfl
  · have g := goodMap_sets e1
    obtain ⟨r, rfl, hr⟩ := ints_of m g.2.2
    rw [ints_length] at g hr
    have hp : (2 : Nat) ^ r.length ≤ 2 ^ 16 := Nat.pow_le_pow_right (by decide) g.2.1
    obtain ⟨K, hK⟩ := spec_prNullity.ev r (fun x hx => by have := hr x hx; omega) (by omega)
    refine ⟨K1 + K, fun k hk => ?_⟩
    have a1 : spec_prGood.f k (ints r) = _ := hK1 k (by omega)
    have c1 : spec_prNullity.f k (ints r) = _ := hK k (by omega)
    show spec_NullityOfMap.f k (ints r) = _
    unfold spec_NullityOfMap.f
    rw [a1, Option.bind_some, e1, if_pos rfl, c1, Option.bind_some, ints_toNat]
    rfl

/-! impl_in -/
theorem impl_in.eq (x a b : Int) : impl_in.f x a b = some (decide (a ≤ x) && decide (x ≤ b)) := by
  unfold impl_in.f
  by_cases h : a ≤ x
  · rw [if_pos h]; simp [h]
  · rw [if_neg h]; simp [h]

/-! impl_isCount -/
theorem impl_isCount.eq (x : Int) : impl_isCount.f x = some (decide (1 ≤ x) && decide (x ≤ 16)) := by unfold impl_isCount.f; rw [impl_in.eq]; rfl

/-! impl_whole -/
theorem impl_whole.eq (n : Int) (h0 : 0 ≤ n) (h1 : n ≤ 62) : impl_whole.f n = some (2 ^ n.toNat - 1) := by unfold impl_whole.f; rw [if_pos h0, whole_eq h0 h1]

/-! impl_isMap -/
theorem impl_isMap.one_eq (m : List Int) : impl_isMap.one m = goodMap m := by
  unfold impl_isMap.one goodMap
  rw [impl_isCount.eq]
  by_cases hn : 1 ≤ m.length ∧ m.length ≤ 16
  · rw [decide_eq_true hn, decide_eq_true (show (1 : Int) ≤ m.length by omega), decide_eq_true (show (m.length : Int) ≤ 16 by omega)]
    have e : impl_isMap.p m.length = fun s => !(inSet m.length s) := by
      funext s
      unfold impl_isMap.p
      rw [whole_eq (by omega) (by omega), impl_in.eq, Int.toNat_natCast, ← inSet_eq' m.length s]
      rfl
    rw [e, List.not_any_eq_all_not]
    simp
  · rw [decide_eq_false hn]
    have : (decide (1 ≤ (m.length : Int)) && decide ((m.length : Int) ≤ 16)) = false := by
      rw [Bool.and_eq_false_iff, decide_eq_false_iff_not, decide_eq_false_iff_not]
      omega
    rw [this]
    rfl
theorem impl_isMap.eq (ms : List (List Int)) : impl_isMap.f ms = some (ms.all goodMap) := by
  unfold impl_isMap.f
  rw [show impl_isMap.one = goodMap from funext impl_isMap.one_eq]

/-! impl_has -/
theorem impl_has.eq (x i : Int) (hx : 0 ≤ x) (hx1 : x < 2 ^ 63) (hi : 0 ≤ i) : impl_has.f x i = some (bit x i) := by unfold impl_has.f; rw [if_pos hi, has_bit hx hx1 hi]

/-! bits_Len64 -/
theorem bits_Len64.tab_rows : ∀ i, i < 256 → bt (⟨#[0, 1, 2, 2, 3, 3, 3, 3, 4, 4, 4, 4, 4, 4, 4, 4, 5, 5, 5, 5, 5, 5, 5, 5, 5, 5, 5, 5, 5, 5, 5, 5, 6, 6, 6, 6, 6, 6, 6, 6, 6, 6, 6, 6, 6, 6, 6, 6, 6, 6, 6, 6, 6, 6, 6, 6, 6, 6, 6, 6, 6, 6, 6, 6, 7, 7, 7, 7, 7, 7, 7, 7, 7, 7, 7, 7, 7, 7, 7, 7, 7, 7, 7, 7, 7, 7, 7, 7, 7, 7, 7, 7, 7, 7, 7, 7, 7, 7, 7, 7, 7, 7, 7, 7, 7, 7, 7, 7, 7, 7, 7, 7, 7, 7, 7, 7, 7, 7, 7, 7, 7, 7, 7, 7, 7, 7, 7, 7, 8, 8, 8, 8, 8, 8, 8, 8, 8, 8, 8, 8, 8, 8, 8, 8, 8, 8, 8, 8, 8, 8, 8, 8, 8, 8, 8, 8, 8, 8, 8, 8, 8, 8, 8, 8, 8, 8, 8, 8, 8, 8, 8, 8, 8, 8, 8, 8, 8, 8, 8, 8, 8, 8, 8, 8, 8, 8, 8, 8, 8, 8, 8, 8, 8, 8, 8, 8, 8, 8, 8, 8, 8, 8, 8, 8, 8, 8, 8, 8, 8, 8, 8, 8, 8, 8, 8, 8, 8, 8, 8, 8, 8, 8, 8, 8, 8, 8, 8, 8, 8, 8, 8, 8, 8, 8, 8, 8, 8, 8, 8, 8, 8, 8, 8, 8, 8, 8, 8, 8, 8, 8, 8, 8, 8, 8, 8, 8]⟩ : ByteArray) ((i : Nat) : Int) = ((blk 8 i : Nat) : Int) := by decide +kernel
theorem bits_Len64.tab (i : Nat) (h : i < 256) : bt (⟨#[0, 1, 2, 2, 3, 3, 3, 3, 4, 4, 4, 4, 4, 4, 4, 4, 5, 5, 5, 5, 5, 5, 5, 5, 5, 5, 5, 5, 5, 5, 5, 5, 6, 6, 6, 6, 6, 6, 6, 6, 6, 6, 6, 6, 6, 6, 6, 6, 6, 6, 6, 6, 6, 6, 6, 6, 6, 6, 6, 6, 6, 6, 6, 6, 7, 7, 7, 7, 7, 7, 7, 7, 7, 7, 7, 7, 7, 7, 7, 7, 7, 7, 7, 7, 7, 7, 7, 7, 7, 7, 7, 7, 7, 7, 7, 7, 7, 7, 7, 7, 7, 7, 7, 7, 7, 7, 7, 7, 7, 7, 7, 7, 7, 7, 7, 7, 7, 7, 7, 7, 7, 7, 7, 7, 7, 7, 7, 7, 8, 8, 8, 8, 8, 8, 8, 8, 8, 8, 8, 8, 8, 8, 8, 8, 8, 8, 8, 8, 8, 8, 8, 8, 8, 8, 8, 8, 8, 8, 8, 8, 8, 8, 8, 8, 8, 8, 8, 8, 8, 8, 8, 8, 8, 8, 8, 8, 8, 8, 8, 8, 8, 8, 8, 8, 8, 8, 8, 8, 8, 8, 8, 8, 8, 8, 8, 8, 8, 8, 8, 8, 8, 8, 8, 8, 8, 8, 8, 8, 8, 8, 8, 8, 8, 8, 8, 8, 8, 8, 8, 8, 8, 8, 8, 8, 8, 8, 8, 8, 8, 8, 8, 8, 8, 8, 8, 8, 8, 8, 8, 8, 8, 8, 8, 8, 8, 8, 8, 8, 8, 8, 8, 8, 8, 8, 8, 8]⟩ : ByteArray) (i : Int) = ((blen i : Nat) : Int) := by rw [bits_Len64.tab_rows i h, blen_blk 8 i h]
/-- The steps behind the first test, with a table. -/
def bits_Len64.body (T : ByteArray) (x0 x2 : Int) : Option Int := if x0 ≥ 65536 then (if (x0 / 65536) ≥ 256 then (if 0 ≤ (((x0 / 65536) / 256) % 256) then (if (((x0 / 65536) / 256) % 256) < 256 then (some (wrap64 ((wrap64 ((wrap64 (x2 + 16)) + 8)) + (wrap64 (bt T (((x0 / 65536) / 256) % 256)))))) else (none)) else (none)) else (if 0 ≤ ((x0 / 65536) % 256) then (if ((x0 / 65536) % 256) < 256 then (some (wrap64 ((wrap64 (x2 + 16)) + (wrap64 (bt T ((x0 / 65536) % 256)))))) else (none)) else (none))) else (if x0 ≥ 256 then (if 0 ≤ ((x0 / 256) % 256) then (if ((x0 / 256) % 256) < 256 then (some (wrap64 ((wrap64 (x2 + 8)) + (wrap64 (bt T ((x0 / 256) % 256)))))) else (none)) else (none)) else (if 0 ≤ ((x0) % 256) then (if ((x0) % 256) < 256 then (some (wrap64 (x2 + (wrap64 (bt T ((x0) % 256)))))) else (none)) else (none)))
theorem bits_Len64.steps (T : ByteArray) (tab : ∀ i : Nat, i < 256 → bt T (i : Int) = ((blen i : Nat) : Int)) (n : Nat) (x : Nat) (hn : n ≤ 32) (hx : x < 4294967296) : bits_Len64.body T (x : Int) (n : Int) = some (((n + blen x : Nat) : Int)) := by
  have tb : ∀ (y : Nat), y < 256 → ((y : Int) % 256) = ((y : Nat) : Int) := fun y h => by omega
  have bl : ∀ (y : Nat), y < 256 → blen y ≤ 8 := fun y h => blen_le h
  unfold bits_Len64.body
  by_cases e1 : x ≥ 65536
  · rw [if_pos (by omega)]
    by_cases e2 : x / 65536 ≥ 256
    · have hb := blen_shift 24 x (by rw [show (2 : Nat) ^ 24 = 16777216 from rfl]; omega)
      rw [show (2 : Nat) ^ 24 = 16777216 from rfl] at hb
      have hl := bl (x / 16777216) (by omega)
      have he : ((x : Int) / 65536) / 256 % 256 = ((x / 16777216 : Nat) : Int) := by omega
      rw [if_pos (by omega), if_pos (by omega), if_pos (by omega), he, tab _ (by omega), wrap_id (x := (n : Int) + 16) (by omega) (by omega), wrap_id (x := (n : Int) + 16 + 8) (by omega) (by omega), wrap_id (x := ((blen (x / 16777216) : Nat) : Int)) (by omega) (by omega), wrap_id (by omega) (by omega), hb]
      congr 1
      omega
    · have hb := blen_shift 16 x (by rw [show (2 : Nat) ^ 16 = 65536 from rfl]; omega)
      rw [show (2 : Nat) ^ 16 = 65536 from rfl] at hb
      have hl := bl (x / 65536) (by omega)
      have he : ((x : Int) / 65536) % 256 = ((x / 65536 : Nat) : Int) := by omega
      rw [if_neg (by omega), if_pos (by omega), if_pos (by omega), he, tab _ (by omega), wrap_id (x := (n : Int) + 16) (by omega) (by omega), wrap_id (x := ((blen (x / 65536) : Nat) : Int)) (by omega) (by omega), wrap_id (by omega) (by omega), hb]
      congr 1
      omega
  · rw [if_neg (by omega)]
    by_cases e2 : x ≥ 256
    · have hb := blen_shift 8 x (by rw [show (2 : Nat) ^ 8 = 256 from rfl]; omega)
      rw [show (2 : Nat) ^ 8 = 256 from rfl] at hb
      have hl := bl (x / 256) (by omega)
      have he : ((x : Int) / 256) % 256 = ((x / 256 : Nat) : Int) := by omega
      rw [if_pos (by omega), if_pos (by omega), if_pos (by omega), he, tab _ (by omega), wrap_id (x := (n : Int) + 8) (by omega) (by omega), wrap_id (x := ((blen (x / 256) : Nat) : Int)) (by omega) (by omega), wrap_id (by omega) (by omega), hb]
      congr 1
      omega
    · have hl := bl x (by omega)
      have he : (x : Int) % 256 = (x : Int) := by omega
      rw [if_neg (by omega), if_pos (by omega), if_pos (by omega), he, tab _ (by omega), wrap_id (x := ((blen x : Nat) : Int)) (by omega) (by omega), wrap_id (by omega) (by omega)]
      congr 1
theorem bits_Len64.tail (k n : Nat) (x : Nat) (hn : n ≤ 32) (hx : x < 4294967296) : bits_Len64.j0 (k + 1) (x : Int) (n : Int) = some (((n + blen x : Nat) : Int)) :=
  bits_Len64.steps (⟨#[0, 1, 2, 2, 3, 3, 3, 3, 4, 4, 4, 4, 4, 4, 4, 4, 5, 5, 5, 5, 5, 5, 5, 5, 5, 5, 5, 5, 5, 5, 5, 5, 6, 6, 6, 6, 6, 6, 6, 6, 6, 6, 6, 6, 6, 6, 6, 6, 6, 6, 6, 6, 6, 6, 6, 6, 6, 6, 6, 6, 6, 6, 6, 6, 7, 7, 7, 7, 7, 7, 7, 7, 7, 7, 7, 7, 7, 7, 7, 7, 7, 7, 7, 7, 7, 7, 7, 7, 7, 7, 7, 7, 7, 7, 7, 7, 7, 7, 7, 7, 7, 7, 7, 7, 7, 7, 7, 7, 7, 7, 7, 7, 7, 7, 7, 7, 7, 7, 7, 7, 7, 7, 7, 7, 7, 7, 7, 7, 8, 8, 8, 8, 8, 8, 8, 8, 8, 8, 8, 8, 8, 8, 8, 8, 8, 8, 8, 8, 8, 8, 8, 8, 8, 8, 8, 8, 8, 8, 8, 8, 8, 8, 8, 8, 8, 8, 8, 8, 8, 8, 8, 8, 8, 8, 8, 8, 8, 8, 8, 8, 8, 8, 8, 8, 8, 8, 8, 8, 8, 8, 8, 8, 8, 8, 8, 8, 8, 8, 8, 8, 8, 8, 8, 8, 8, 8, 8, 8, 8, 8, 8, 8, 8, 8, 8, 8, 8, 8, 8, 8, 8, 8, 8, 8, 8, 8, 8, 8, 8, 8, 8, 8, 8, 8, 8, 8, 8, 8, 8, 8, 8, 8, 8, 8, 8, 8, 8, 8, 8, 8, 8, 8, 8, 8, 8, 8]⟩ : ByteArray) bits_Len64.tab n x hn hx
theorem bits_Len64.eq (k : Nat) (x : Nat) (hx : x < 2 ^ 64) : bits_Len64.f (k + 1) (x : Int) = some ((blen x : Nat) : Int) := by
  unfold bits_Len64.f
  by_cases e : x ≥ 4294967296
  · have hb := blen_shift 32 x (by rw [show (2 : Nat) ^ 32 = 4294967296 from rfl]; omega)
    rw [show (2 : Nat) ^ 32 = 4294967296 from rfl] at hb
    have := bits_Len64.tail k 32 (x / 4294967296) (by omega) (by omega)
    rw [if_pos (by omega), show (x : Int) / 4294967296 = ((x / 4294967296 : Nat) : Int) by omega]
    refine this.trans ?_
    rw [hb, Nat.add_comm]
  · have := bits_Len64.tail k 0 x (by omega) (by omega)
    rw [if_neg (by omega)]
    refine this.trans ?_
    rw [Nat.zero_add]

/-! bits_Len -/
theorem bits_Len.eq (k : Nat) (x : Nat) (hx : x < 2 ^ 64) : bits_Len.f (k + 1) (x : Int) = some ((blen x : Nat) : Int) := by
  unfold bits_Len.f
  rw [bits_Len64.eq k x hx]
  rfl

/-! impl_top -/
theorem impl_top.eq (k : Nat) (x : Nat) (hx : x < 2 ^ 63) : impl_top.f (k + 1) (x : Int) = some (pdeg x) := by
  have e : IntKind.u64.wrap (x : Int) = (x : Int) := by
    show (x : Int) % _ = _
    exact Int.emod_eq_of_lt (by omega) (by show (x : Int) < 18446744073709551616; omega)
  have hb : blen x ≤ 63 := blen_le hx
  unfold impl_top.f
  rw [e, bits_Len.eq k x (by omega), Option.bind_some, wrap_id (by omega) (by omega)]
  rfl

/-! impl_reduced -/
theorem impl_reduced.step_eq (k : Nat) (s b : Nat) (hs : s < 2 ^ 62) (hb : b < 2 ^ 62) (h0 : b ≠ 0) : impl_reduced.step (k + 1) (s : Int) (b : Int) = some (redOne s b : Int) := by
  have h1 := blen_ne h0
  unfold impl_reduced.step redOne
  rw [impl_top.eq k b (by omega), Option.bind_some, impl_has.eq (s : Int) (pdeg b) (by omega) (by omega) (by unfold pdeg; omega), Option.bind_some]
  have e1 : bit (s : Int) (pdeg b) = s.testBit (blen b - 1) := by
    unfold bit pdeg
    rw [show ((blen b : Int) - 1).toNat = blen b - 1 by omega]
    rfl
  rw [e1]
  split
  · rw [xor_nat s b (by omega) (by omega)]
  · rfl
theorem impl_reduced.go_eq (k : Nat) : ∀ (l : List Nat) (s : Nat), s < 2 ^ 62 → (∀ b ∈ l, b < 2 ^ 62 ∧ b ≠ 0) → impl_reduced.go (k + 1) (ints l) (s : Int) = some ((l.foldl redOne s : Nat) : Int)
  | [], s, _, _ => rfl
  | b :: l, s, hs, h => by
    have hb := h b List.mem_cons_self
    show impl_reduced.go (k + 1) ((b : Int) :: ints l) (s : Int) = _
    unfold impl_reduced.go
    rw [impl_reduced.step_eq k s b hs hb.1 hb.2, Option.bind_some, impl_reduced.go_eq k l (redOne s b) (redOne_lt hs hb.1) (fun x hx => h x (List.mem_cons_of_mem _ hx))]
    rfl
theorem impl_reduced.eq (k : Nat) (l : List Nat) (s : Nat) (hs : s < 2 ^ 62) (h : ∀ b ∈ l, b < 2 ^ 62 ∧ b ≠ 0) : impl_reduced.f (k + 1) (ints l) (s : Int) = some (red l s : Int) := by
  unfold impl_reduced.f
  have e1 : (ints l).reverse = ints l.reverse := by unfold ints; rw [List.map_reverse]
  rw [e1, impl_reduced.go_eq k l.reverse s hs (fun b hb => h b (by simpa using hb)), List.foldl_reverse]
  rfl

/-! impl_extended -/
theorem impl_extended.tp_eq (k b : Nat) (hb : b < 2 ^ 62) : impl_extended.tp (k + 1) (b : Int) = pdeg b ∧ impl_extended.okB (k + 1) (b : Int) = true := by
  have h1 : blen b ≤ 62 := blen_le hb
  unfold impl_extended.tp impl_extended.okB
  rw [impl_top.eq k b (by omega)]
  refine ⟨rfl, ?_⟩
  simp only [Bool.and_eq_true, decide_eq_true_eq]
  unfold pdeg
  omega
theorem impl_extended.go_eq (k : Nat) (t : Nat) (ht : t < 2 ^ 62) (h0 : t ≠ 0) : ∀ l : List Nat, (∀ b ∈ l, b < 2 ^ 62) → impl_extended.go (k + 1) (t : Int) (ints l) = some (ints (l.map (putOne t)))
  | [], _ => rfl
  | b :: l, h => by
    have hb := h b List.mem_cons_self
    have h1 := blen_ne h0
    show impl_extended.go (k + 1) (t : Int) ((b : Int) :: ints l) = _
    unfold impl_extended.go
    rw [impl_top.eq k t (by omega), Option.bind_some, impl_has.eq (b : Int) (pdeg t) (by omega) (by omega) (by unfold pdeg; omega), Option.bind_some, impl_extended.go_eq k t ht h0 l (fun x hx => h x (List.mem_cons_of_mem _ hx)), Option.bind_some]
    have e1 : bit (b : Int) (pdeg t) = b.testBit (blen t - 1) := by
      unfold bit pdeg
      rw [show ((blen t : Int) - 1).toNat = blen t - 1 by omega]
      rfl
    rw [e1, xor_nat b t (by omega) (by omega), List.map_cons]
    unfold putOne
    show some _ = some (_ :: _)
    congr 2
    split <;> rfl
theorem impl_extended.eq (k : Nat) (l : List Nat) (s : Nat) (hs : s < 2 ^ 62) (hl : ∀ b ∈ l, b < 2 ^ 62) (hB : Basis l) (hn : l.length ≤ 1048576) : impl_extended.f (k + 1) (ints l) (s : Int) = some (ints (put l s)) := by
  have hr := red_lt l s hl hs
  have hc := red_clean l s hB
  unfold impl_extended.f put
  rw [impl_reduced.eq k l s hs (fun b hb => ⟨hl b hb, hB.pos b hb⟩), Option.bind_some]
  by_cases hz : red l s = 0
  · rw [if_pos (by omega), if_pos hz]
  · rw [if_neg (by omega), if_neg hz]
    generalize red l s = t at hr hc hz ⊢
    rw [impl_extended.go_eq k t hr hz l hl, Option.bind_some]
    have hp := putTop_perm hB hz hc
    have hT := putTop_basis hB hz hc
    have hlo := putTop_lt hl hr
    have ea : ints (l.map (putOne t)) ++ [(t : Int)] = ints (l.map (putOne t) ++ [t]) := by rw [ints_append]; rfl
    rw [ea]
    have hmem : ∀ x ∈ ints (l.map (putOne t) ++ [t]), ∃ b : Nat, x = (b : Int) ∧ b ∈ putTop l t := fun x hx => by
      unfold ints at hx
      obtain ⟨b, hb, rfl⟩ := List.mem_map.1 hx
      exact ⟨b, rfl, hp.mem_iff.1 hb⟩
    have hfit : impl_extended.fit (k + 1) (ints (l.map (putOne t) ++ [t])) = true := by
      unfold impl_extended.fit
      simp only [Bool.and_eq_true, List.all_eq_true, decide_eq_true_eq]
      refine ⟨⟨fun x hx => ?_, fun x hx y hy => ?_⟩, ?_⟩
      · obtain ⟨b, rfl, hb⟩ := hmem x hx
        exact (impl_extended.tp_eq k b (hlo b hb)).2
      · obtain ⟨b, rfl, hb⟩ := hmem x hx
        obtain ⟨c, rfl, hc2⟩ := hmem y hy
        rw [(impl_extended.tp_eq k b (hlo b hb)).1, (impl_extended.tp_eq k c (hlo c hc2)).1]
        simp only [Bool.or_eq_true, bne_iff_ne, beq_iff_eq]
        by_cases e : b = c
        · exact .inr (by rw [e])
        · refine .inl fun e2 => e ?_
          have e3 : blen b = blen c := by unfold pdeg at e2; omega
          have key : ∀ (r : List Nat), r.Pairwise (fun a b => blen a < blen b) → b ∈ r → c ∈ r → b = c := by
            intro r
            induction r with
            | nil => intro _ hx; simp at hx
            | cons d r ih =>
              intro hpw h1 h2
              obtain ⟨p1, p2⟩ := List.pairwise_cons.1 hpw
              rcases List.mem_cons.1 h1 with e5 | h1
              · rcases List.mem_cons.1 h2 with e6 | h2
                · rw [e5, e6]
                · have := p1 c h2; rw [← e5] at this; omega
              · rcases List.mem_cons.1 h2 with e6 | h2
                · have := p1 b h1; rw [← e6] at this; omega
                · exact ih p2 h1 h2
          exact key _ hT.up hb hc2
      · rw [ints_length, List.length_append, List.length_map, List.length_singleton]
        omega
    rw [if_pos hfit]
    congr 1
    have hs := List.pairwise_mergeSort (le := fun x y : Int => !decide (impl_extended.tp (k + 1) y < impl_extended.tp (k + 1) x)) (fun a b c h1 h2 => by simp at h1 h2 ⊢; omega) (fun a b => by simp; omega) (ints (l.map (putOne t) ++ [t]))
    refine List.Perm.eq_of_pairwise (le := fun x y : Int => impl_extended.tp (k + 1) x ≤ impl_extended.tp (k + 1) y) (fun a b ha hb h1 h2 => ?_) (hs.imp fun h => by simpa using h) ?_ ((List.mergeSort_perm _ _).trans (hp.map _))
    · obtain ⟨x, rfl, hx⟩ := hmem a ((List.mergeSort_perm _ _).mem_iff.1 ha)
      have hfa := impl_extended.fit_apart hfit
      have hb2 : b ∈ ints (l.map (putOne t) ++ [t]) := (hp.map _).mem_iff.2 hb
      exact hfa _ ((List.mergeSort_perm _ _).mem_iff.1 ha) b hb2 (Int.le_antisymm h1 h2)
    · unfold ints
      rw [List.pairwise_map]
      refine hT.up.imp_of_mem (fun {a b} ha hb h => ?_)
      rw [(impl_extended.tp_eq k a (hlo a ha)).1, (impl_extended.tp_eq k b (hlo b hb)).1]
      unfold pdeg
      omega

/-! impl_nullityOfMap -/
theorem impl_nullityOfMap.loop (m : List Nat) (hm : ∀ x ∈ m, x < 2 ^ 62) (hl : m.length ≤ 1000) (d : Nat) :
    ∀ (i : Nat) (b : List Nat), m.length - i = d → i ≤ m.length → b = puts [] (m.take i) → Ev (fun k => impl_nullityOfMap.l0 k (ints m) (ints b) (ints m) (m.length : Int) (i : Int)) (nulMap m) := by
  induction d with
  | zero =>
    intro i b hd hi hb
    have hbl := puts_length_le (m.take i) []
    rw [List.take_of_length_le (by omega)] at hb hbl
    refine now fun k => ?_
    simp only [impl_nullityOfMap.l0]
    rw [if_neg (by omega), ints_length, ints_length, hb]
    simp only [List.length_nil] at hbl
    rw [wrap_id (by omega) (by omega)]
    rfl
  | succ d ih =>
    intro i b hd hi hb
    have hlt : i < m.length := by omega
    have hB : Basis b := by rw [hb]; exact puts_basis _ basis_nil
    have hlo : ∀ x ∈ b, x < 2 ^ 62 := by rw [hb]; exact puts_lt _ (fun x hx => by simp at hx) (fun x hx => hm x (List.mem_of_mem_take hx))
    have hbl : b.length ≤ 1000 := by
      have := puts_length_le (m.take i) []
      rw [← hb] at this
      simp at this
      omega
    obtain ⟨K, hK⟩ := ih (i + 1) (put b m[i]) (by omega) (by omega) (by rw [List.take_succ_eq_append_getElem hlt, hb]; unfold puts; rw [List.foldl_append]; rfl)
    refine ⟨K + 2, fun k hk => ?_⟩
    obtain ⟨j, rfl⟩ : ∃ j, k = j + 2 := ⟨k - 2, by omega⟩
    show impl_nullityOfMap.l0 (j + 1 + 1) (ints m) (ints b) (ints m) (m.length : Int) (i : Int) = _
    simp only [impl_nullityOfMap.l0]
    rw [if_pos (by omega), if_pos (by omega), if_pos (by rw [ints_length]; omega), ints_get m i hlt, impl_extended.eq j b m[i] (hm _ (List.getElem_mem hlt)) hlo hB (by omega), Option.bind_some, wrap_succ i (by omega)]
    exact hK (j + 1) (by omega)
theorem impl_nullityOfMap.ev (m : List Nat) (hm : ∀ x ∈ m, x < 2 ^ 62) (hl : m.length ≤ 1000) : Ev (fun k => impl_nullityOfMap.f k (ints m)) (nulMap m) := by
  have h := impl_nullityOfMap.loop m hm hl m.length 0 [] (by omega) (by omega) rfl
  refine Ev.congr (f := fun k => impl_nullityOfMap.l0 k (ints m) (ints []) (ints m) (m.length : Int) ((0 : Nat) : Int)) (fun k => ?_) h
  unfold impl_nullityOfMap.f
  rw [ints_length]
  rfl

/-! impl_NullityOfMap -/
theorem impl_NullityOfMap.ev (m : List Int) (h : m.length ≤ 1048576) : Ev (fun k => impl_NullityOfMap.f k m) (if goodMap m = true then (nulMap (m.map Int.toNat), true) else (0, false)) := by
  have a1 : impl_isMap.f [m] = some (goodMap m) := by rw [impl_isMap.eq]; simp
  cases e1 : goodMap m
  · refine always fun k => ?_
    unfold impl_NullityOfMap.f
    rw [a1, Option.bind_some, e1]
    rfl
  · have g := goodMap_sets e1
    obtain ⟨r, rfl, hr⟩ := ints_of m g.2.2
    rw [ints_length] at g hr
    have hp : (2 : Nat) ^ r.length ≤ 2 ^ 16 := Nat.pow_le_pow_right (by decide) g.2.1
    obtain ⟨K, hK⟩ := impl_nullityOfMap.ev r (fun x hx => by have := hr x hx; omega) (by omega)
    refine ⟨K, fun k hk => ?_⟩
    have c1 : impl_nullityOfMap.f k (ints r) = _ := hK k hk
    show impl_NullityOfMap.f k (ints r) = _
    unfold impl_NullityOfMap.f
    rw [a1, Option.bind_some, e1, if_pos rfl, c1, Option.bind_some, ints_toNat]
    rfl
end Go.Proofs.Ytcdphbpbfmjheaa.Pure
