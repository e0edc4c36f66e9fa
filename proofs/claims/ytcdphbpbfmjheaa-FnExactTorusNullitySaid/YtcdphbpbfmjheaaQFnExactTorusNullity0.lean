/- What the functions of FnExactTorusNullity compute, in plain words. -/
import Derived.Test.YtcdphbpbfmjheaaPFnExactTorusNullityx7
import Derived.Test.YtcdphbpbfmjheaaM1
import Derived.Test.YtcdphbpbfmjheaaM2
import Derived.Test.YtcdphbpbfmjheaaM4
import Derived.Test.YtcdphbpbfmjheaaM5
import Derived.Test.YtcdphbpbfmjheaaM6
import Derived.Test.YtcdphbpbfmjheaaM8
import Derived.Test.YtcdphbpbfmjheaaM10
namespace Go.Proofs.Ytcdphbpbfmjheaa.Pure
open Go.RowKit Go.Proofs.Ytcdphbpbfmjheaa.PFnExactTorusNullity Go.Proofs.YtcdphbpbfmjheaaW.PrintWords Go.Proofs.YtcdphbpbfmjheaaW.PrintLast Go.Proofs.YtcdphbpbfmjheaaW.PrintMore Go.Proofs.YtcdphbpbfmjheaaM
set_option linter.unusedVariables false
set_option linter.unusedSimpArgs false
/-! spec_l1In -/
theorem spec_l1In.eq (x a b : Int) : spec_l1In.f x a b = some (decide (a ≤ x) && decide (x ≤ b)) := by
  unfold spec_l1In.f
  by_cases h : a ≤ x
  · rw [if_pos (by omega)]; simp [h]
  · rw [if_neg (by omega)]; simp [h]

/-! spec_grIn -/
theorem spec_grIn.eq (x i : Int) (hx : 0 ≤ x) (hx1 : x < 2 ^ 63) (hi : 0 ≤ i) : spec_grIn.f x i = some (bit x i) := by unfold spec_grIn.f; rw [if_pos hi, in_bit hx hx1 hi]

/-! spec_soTop -/
theorem spec_soTop.loop : ∀ (n : Nat) (x : Nat) (o : Int), blen x = n → n ≤ 63 → -1 ≤ o → o + n ≤ 100 → Ev (fun k => spec_soTop.l0 k (x : Int) o) (o + n)
  | 0, x, o, hn, _, h0, h1 => by
    have : x = 0 := by
      by_cases e : x = 0
      · exact e
      · rw [blen_pos e] at hn; omega
    subst this
    refine now fun k => ?_
    simp only [spec_soTop.l0]
    rw [if_neg (by decide)]
    simp
  | n + 1, x, o, hn, h63, h0, h1 => by
    have hb : x < 2 ^ 63 := lt_of_blen (by omega)
    have hx : x ≠ 0 := fun e => by rw [e, blen_zero] at hn; omega
    rw [blen_pos hx] at hn
    have ih := spec_soTop.loop n (x / 2) (o + 1) (by omega) (by omega) (by omega) (by omega)
    rw [show o + 1 + (n : Int) = o + ((n + 1 : Nat) : Int) by omega] at ih
    refine Ev.step (f := fun k => spec_soTop.l0 k ((x / 2 : Nat) : Int) (o + 1)) (fun k => ?_) ih
    simp only [spec_soTop.l0]
    rw [if_pos (by omega), Int.tdiv_eq_ediv_of_nonneg (by omega), wrap_id (by omega) (by omega), wrap_id (by omega) (by omega), show (x : Int) / 2 = ((x / 2 : Nat) : Int) by omega]
theorem spec_soTop.ev (x : Nat) (hx : x < 2 ^ 63) : Ev (fun k => spec_soTop.f k (x : Int)) (pdeg x) := by
  have hb : blen x ≤ 63 := blen_le hx
  have := spec_soTop.loop (blen x) x (-1) rfl hb (by omega) (by omega)
  rw [show (-1 : Int) + (blen x : Int) = pdeg x by unfold pdeg; omega] at this
  exact this

/-! spec_soReduce -/
theorem spec_soReduce.loop (l : List Nat) (hl : ∀ b ∈ l, b < 2 ^ 62 ∧ b ≠ 0) (hn : l.length ≤ 1048576) : ∀ (i s : Nat), i ≤ l.length → s < 2 ^ 62 → Ev (fun k => spec_soReduce.l0 k (ints l) (s : Int) ((i : Int) - 1)) (red (l.take i) s : Int)
  | 0, s, _, _ => by
    refine now fun k => ?_
    simp only [spec_soReduce.l0]
    rw [if_neg (by omega)]
    rfl
  | i + 1, s, hi, hs => by
    have hb := hl l[i] (List.getElem_mem (by omega))
    have h1 := blen_ne hb.2
    have ih := spec_soReduce.loop l hl hn i (redOne s l[i]) (by omega) (redOne_lt hs hb.1)
    have e0 : red (l.take (i + 1)) s = red (l.take i) (redOne s l[i]) := by
      rw [List.take_succ_eq_append_getElem (by omega)]
      unfold red
      rw [List.foldr_append]
      rfl
    rw [e0]
    obtain ⟨K, hK⟩ := ev_and (spec_soTop.ev l[i] (by omega)) ih
    refine ⟨K + 1, fun k hk => ?_⟩
    obtain ⟨j, rfl⟩ : ∃ j, k = j + 1 := ⟨k - 1, by omega⟩
    obtain ⟨c1, c2⟩ := hK j (by omega)
    have e1 : bit (s : Int) (pdeg l[i]) = s.testBit (blen l[i] - 1) := by
      unfold bit pdeg
      rw [show ((blen l[i] : Int) - 1).toNat = blen l[i] - 1 by omega]
      rfl
    show spec_soReduce.l0 (j + 1) (ints l) (s : Int) (((i + 1 : Nat) : Int) - 1) = _
    simp only [spec_soReduce.l0]
    rw [show (((i + 1 : Nat) : Int) - 1) = (i : Int) by omega, if_pos (by omega), if_pos (by omega), if_pos (by rw [ints_length]; omega), ints_get l i (by omega), c1, Option.bind_some, spec_grIn.eq (s : Int) (pdeg l[i]) (by omega) (by omega) (by unfold pdeg; omega), Option.bind_some, e1, wrap_id (by omega) (by omega)]
    by_cases e : s.testBit (blen l[i] - 1) = true
    · have er : redOne s l[i] = s ^^^ l[i] := if_pos e
      rw [er] at c2 ⊢
      rw [if_pos e, xor_nat s l[i] (by omega) (by omega)]
      exact c2
    · have er : redOne s l[i] = s := if_neg e
      rw [er] at c2 ⊢
      rw [if_neg e]
      exact c2
theorem spec_soReduce.ev (l : List Nat) (hl : ∀ b ∈ l, b < 2 ^ 62 ∧ b ≠ 0) (hn : l.length ≤ 1048576) (s : Nat) (hs : s < 2 ^ 62) : Ev (fun k => spec_soReduce.f k (ints l) (s : Int)) (red l s : Int) := by
  have h := spec_soReduce.loop l hl hn l.length s (Nat.le_refl _) hs
  rw [List.take_length] at h
  refine Ev.congr (f := fun k => spec_soReduce.l0 k (ints l) (s : Int) ((l.length : Int) - 1)) (fun k => ?_) h
  unfold spec_soReduce.f
  rw [ints_length, wrap_id (by omega) (by omega)]

/-! spec_soPut -/
theorem spec_soPut.high (l : List Nat) (hl : ∀ b ∈ l, b < 2 ^ 62) (hn : l.length ≤ 1048576) (t : Nat) (ht : t < 2 ^ 62) (h0 : t ≠ 0) (d : Nat) :
    ∀ (i : Nat) (o : List Nat), l.length - i = d → i ≤ l.length → o.length ≤ 2097152 + i → Ev (fun k => spec_soPut.l1 k (t : Int) (pdeg t) (ints o) (ints l) (l.length : Int) (i : Int)) (ints (o ++ ((l.drop i).filter (fun b => decide (blen t < blen b))).map (putOne t))) := by
  have h1 := blen_ne h0
  induction d with
  | zero =>
    intro i o hd hi ho
    refine now fun k => ?_
    simp only [spec_soPut.l1]
    rw [if_neg (by omega), List.drop_eq_nil_of_le (by omega)]
    simp
  | succ d ih =>
    intro i o hd hi ho
    have hlt : i < l.length := by omega
    have hb := hl l[i] (List.getElem_mem hlt)
    rw [drop_cons l i hlt, List.filter_cons]
    by_cases e : blen t < blen l[i]
    · rw [if_pos (by simpa using e), List.map_cons]
      obtain ⟨K, hK⟩ := ev_and (spec_soTop.ev l[i] (by omega)) (ih (i + 1) (o ++ [putOne t l[i]]) (by omega) (by omega) (by simp; omega))
      refine ⟨K + 1, fun k hk => ?_⟩
      obtain ⟨j, rfl⟩ : ∃ j, k = j + 1 := ⟨k - 1, by omega⟩
      obtain ⟨c1, c2⟩ := hK j (by omega)
      have e1 : bit (l[i] : Int) (pdeg t) = l[i].testBit (blen t - 1) := by
        unfold bit pdeg
        rw [show ((blen t : Int) - 1).toNat = blen t - 1 by omega]
        rfl
      show spec_soPut.l1 (j + 1) (t : Int) (pdeg t) (ints o) (ints l) (l.length : Int) (i : Int) = _
      simp only [spec_soPut.l1]
      rw [if_pos (by omega), if_pos (by omega), if_pos (by rw [ints_length]; omega), ints_get l i hlt, c1, Option.bind_some, if_pos (by unfold pdeg; omega), spec_grIn.eq (l[i] : Int) (pdeg t) (by omega) (by omega) (by unfold pdeg; omega), Option.bind_some, e1]
      simp only [if_pos (show (ints o).length < 17592186044416 by rw [ints_length]; omega), wrap_succ i (show i < 4611686018427387904 by omega)]
      rw [ints_append] at c2
      rw [List.append_assoc, List.singleton_append] at c2
      by_cases e2 : l[i].testBit (blen t - 1) = true
      · have er : putOne t l[i] = l[i] ^^^ t := if_pos e2
        rw [er] at c2 ⊢
        rw [if_pos e2, xor_nat l[i] t (by omega) (by omega)]
        exact c2
      · have er : putOne t l[i] = l[i] := if_neg e2
        rw [er] at c2 ⊢
        rw [if_neg e2]
        exact c2
    · rw [if_neg (by simpa using e)]
      obtain ⟨K, hK⟩ := ev_and (spec_soTop.ev l[i] (by omega)) (ih (i + 1) o (by omega) (by omega) (by omega))
      refine ⟨K + 1, fun k hk => ?_⟩
      obtain ⟨j, rfl⟩ : ∃ j, k = j + 1 := ⟨k - 1, by omega⟩
      obtain ⟨c1, c2⟩ := hK j (by omega)
      show spec_soPut.l1 (j + 1) (t : Int) (pdeg t) (ints o) (ints l) (l.length : Int) (i : Int) = _
      simp only [spec_soPut.l1]
      rw [if_pos (by omega), if_pos (by omega), if_pos (by rw [ints_length]; omega), ints_get l i hlt, c1, Option.bind_some, if_neg (by unfold pdeg; omega), wrap_succ i (by omega)]
      exact c2
theorem spec_soPut.low (l : List Nat) (hl : ∀ b ∈ l, b < 2 ^ 62) (hn : l.length ≤ 1048576) (t : Nat) (ht : t < 2 ^ 62) (h0 : t ≠ 0) (d : Nat) :
    ∀ (i : Nat) (o : List Nat), l.length - i = d → i ≤ l.length → o.length ≤ i → Ev (fun k => spec_soPut.l0 k (ints l) (t : Int) (pdeg t) (ints o) (ints l) (l.length : Int) (i : Int)) (ints (o ++ (l.drop i).filter (fun b => decide (blen b < blen t)) ++ [t] ++ (l.filter (fun b => decide (blen t < blen b))).map (putOne t))) := by
  have h1 := blen_ne h0
  induction d with
  | zero =>
    intro i o hd hi ho
    have hh := spec_soPut.high l hl hn t ht h0 l.length 0 (o ++ [t]) (by omega) (by omega) (by simp; omega)
    rw [List.drop_zero, ints_append] at hh
    refine Ev.step (f := fun k => spec_soPut.l1 k (t : Int) (pdeg t) (ints o ++ ints [t]) (ints l) (l.length : Int) ((0 : Nat) : Int)) (fun k => ?_) (by rw [List.drop_eq_nil_of_le (by omega)]; simpa using hh)
    simp only [spec_soPut.l0]
    rw [if_neg (by omega), if_pos (by rw [ints_length]; omega), ints_length]
    rfl
  | succ d ih =>
    intro i o hd hi ho
    have hlt : i < l.length := by omega
    have hb := hl l[i] (List.getElem_mem hlt)
    rw [drop_cons l i hlt, List.filter_cons]
    by_cases e : blen l[i] < blen t
    · rw [if_pos (by simpa using e)]
      obtain ⟨K, hK⟩ := ev_and (spec_soTop.ev l[i] (by omega)) (ih (i + 1) (o ++ [l[i]]) (by omega) (by omega) (by simp; omega))
      refine ⟨K + 1, fun k hk => ?_⟩
      obtain ⟨j, rfl⟩ : ∃ j, k = j + 1 := ⟨k - 1, by omega⟩
      obtain ⟨c1, c2⟩ := hK j (by omega)
      show spec_soPut.l0 (j + 1) (ints l) (t : Int) (pdeg t) (ints o) (ints l) (l.length : Int) (i : Int) = _
      simp only [spec_soPut.l0]
      rw [if_pos (by omega), if_pos (by omega), if_pos (by rw [ints_length]; omega), ints_get l i hlt, c1, Option.bind_some, if_pos (by unfold pdeg; omega), if_pos (by rw [ints_length]; omega), wrap_succ i (by omega)]
      rw [ints_append, List.append_assoc o, List.singleton_append] at c2
      exact c2
    · rw [if_neg (by simpa using e)]
      obtain ⟨K, hK⟩ := ev_and (spec_soTop.ev l[i] (by omega)) (ih (i + 1) o (by omega) (by omega) (by omega))
      refine ⟨K + 1, fun k hk => ?_⟩
      obtain ⟨j, rfl⟩ : ∃ j, k = j + 1 := ⟨k - 1, by omega⟩
      obtain ⟨c1, c2⟩ := hK j (by omega)
      show spec_soPut.l0 (j + 1) (ints l) (t : Int) (pdeg t) (ints o) (ints l) (l.length : Int) (i : Int) = _
      simp only [spec_soPut.l0]
      rw [if_pos (by omega), if_pos (by omega), if_pos (by rw [ints_length]; omega), ints_get l i hlt, c1, Option.bind_some, if_neg (by unfold pdeg; omega), wrap_succ i (by omega)]
      exact c2
theorem spec_soPut.ev (l : List Nat) (s : Nat) (hs : s < 2 ^ 62) (hl : ∀ b ∈ l, b < 2 ^ 62) (hB : Basis l) (hn : l.length ≤ 1048576) : Ev (fun k => spec_soPut.f k (ints l) (s : Int)) (ints (put l s)) := by
  have hr := red_lt l s hl hs
  obtain ⟨K1, hK1⟩ := spec_soReduce.ev l (fun b hb => ⟨hl b hb, hB.pos b hb⟩) hn s hs
  unfold put
  by_cases hz : red l s = 0
  · rw [if_pos hz]
    refine ⟨K1, fun k hk => ?_⟩
    have c1 : spec_soReduce.f k (ints l) (s : Int) = _ := hK1 k hk
    show spec_soPut.f k (ints l) (s : Int) = _
    unfold spec_soPut.f
    rw [c1, Option.bind_some, if_pos (by omega)]
  · rw [if_neg hz]
    obtain ⟨K2, hK2⟩ := ev_and (spec_soTop.ev (red l s) (by omega)) (spec_soPut.low l hl hn (red l s) hr hz l.length 0 [] (by omega) (by omega) (by simp))
    refine ⟨K1 + K2, fun k hk => ?_⟩
    have c1 : spec_soReduce.f k (ints l) (s : Int) = _ := hK1 k (by omega)
    obtain ⟨c2, c3⟩ := hK2 k (by omega)
    show spec_soPut.f k (ints l) (s : Int) = _
    unfold spec_soPut.f
    rw [c1, Option.bind_some, if_neg (by omega), c2, Option.bind_some, ints_length]
    rw [List.drop_zero, List.nil_append] at c3
    exact c3

/-! spec_prNullity -/
theorem spec_prNullity.loop (m : List Nat) (hm : ∀ x ∈ m, x < 2 ^ 62) (hl : m.length ≤ 1000) (d : Nat) :
    ∀ (i : Nat) (b : List Nat), m.length - i = d → i ≤ m.length → b = puts [] (m.take i) → Ev (fun k => spec_prNullity.l0 k (ints m) (ints b) (ints m) (m.length : Int) (i : Int)) (nulMap m) := by
  induction d with
  | zero =>
    intro i b hd hi hb
    have hbl := puts_length_le (m.take i) []
    rw [List.take_of_length_le (by omega)] at hb hbl
    refine now fun k => ?_
    simp only [spec_prNullity.l0]
    rw [if_neg (by omega), ints_length, ints_length, hb]
    simp only [List.length_nil] at hbl
    rw [wrap_id (by omega) (by omega)]
    rfl
  | succ d ih =>
    intro i b hd hi hb
    have hlt : i < m.length := by omega
    have hB : Basis b := by rw [hb]; exact puts_basis _ basis_nil
    have hlo : ∀ x ∈ b, x < 2 ^ 62 := by rw [hb]; exact puts_lt _ (fun x hx => by simp at hx) (fun x hx => hm x (List.mem_of_mem_take hx))
    have hbl : b.length ≤ 1000 := by
      have := puts_length_le (m.take i) []
      rw [← hb] at this
      simp at this
      omega
    obtain ⟨K, hK⟩ := ev_and (spec_soPut.ev b m[i] (hm _ (List.getElem_mem hlt)) hlo hB (by omega)) (ih (i + 1) (put b m[i]) (by omega) (by omega) (by rw [List.take_succ_eq_append_getElem hlt, hb]; unfold puts; rw [List.foldl_append]; rfl))
    refine ⟨K + 1, fun k hk => ?_⟩
    obtain ⟨j, rfl⟩ : ∃ j, k = j + 1 := ⟨k - 1, by omega⟩
    obtain ⟨c1, c2⟩ := hK j (by omega)
    show spec_prNullity.l0 (j + 1) (ints m) (ints b) (ints m) (m.length : Int) (i : Int) = _
    simp only [spec_prNullity.l0]
    rw [if_pos (by omega), if_pos (by omega), if_pos (by rw [ints_length]; omega), ints_get m i hlt, c1, Option.bind_some, wrap_succ i (by omega)]
    exact c2
theorem spec_prNullity.ev (m : List Nat) (hm : ∀ x ∈ m, x < 2 ^ 62) (hl : m.length ≤ 1000) : Ev (fun k => spec_prNullity.f k (ints m)) (nulMap m) := by
  have h := spec_prNullity.loop m hm hl m.length 0 [] (by omega) (by omega) rfl
  refine Ev.congr (f := fun k => spec_prNullity.l0 k (ints m) (ints []) (ints m) (m.length : Int) ((0 : Nat) : Int)) (fun k => ?_) h
  unfold spec_prNullity.f
  rw [ints_length]
  rfl

/-! spec_prApply -/
theorem spec_prApply.loop (m : List Int) (s : Int) (n : Nat) (hn : n ≤ 62) (hm : ∀ x ∈ m, 0 ≤ x ∧ x < 2 ^ n) (h0 : 0 ≤ s) (h1 : s < 2 ^ 63) (hl : m.length < 4611686018427387904) (d : Nat) :
    ∀ (i : Nat) (o : Int), m.length - i = d → i ≤ m.length → 0 ≤ o → o < 2 ^ n → Ev (fun k => spec_prApply.l0 k s o m (m.length : Int) (i : Int)) (applyGo s o i (m.drop i)) := by
  have hp := pow_le63 (n := n) (by omega)
  induction d with
  | zero =>
    intro i o hd hi ho0 ho1
    refine now fun k => ?_
    simp only [spec_prApply.l0]
    rw [if_neg (by omega), List.drop_eq_nil_of_le (by omega)]
    rfl
  | succ d ih =>
    intro i o hd hi ho0 ho1
    have hlt : i < m.length := by omega
    have hx := hm m[i] (List.getElem_mem _)
    have hin := spec_grIn.eq s (i : Int) h0 h1 (by omega)
    rw [drop_cons m i hlt, applyGo]
    cases e : bit s (i : Int)
    · refine Ev.step (f := fun k => spec_prApply.l0 k s o m (m.length : Int) ((i + 1 : Nat) : Int)) (fun k => ?_) (by simpa using ih (i + 1) o (by omega) (by omega) ho0 ho1)
      simp only [spec_prApply.l0]
      rw [if_pos (by omega), if_pos (by omega), if_pos (by omega), hin, Option.bind_some, e, wrap_succ i (by omega)]
      rfl
    · refine Ev.step (f := fun k => spec_prApply.l0 k s ((o.toNat ^^^ m[i].toNat : Nat) : Int) m (m.length : Int) ((i + 1 : Nat) : Int)) (fun k => ?_) (by simpa using ih (i + 1) _ (by omega) (by omega) (by omega) (xor_lt ho1 hx.2 ho0 hx.1))
      simp only [spec_prApply.l0]
      rw [if_pos (by omega), if_pos (by omega), if_pos (by omega), hin, Option.bind_some, e, if_pos rfl, rd_get m i hlt, xor_eq ho0 (by omega) hx.1 (by omega), wrap_succ i (by omega)]
theorem spec_prApply.ev (m : List Int) (s : Int) (n : Nat) (hn : n ≤ 62) (hm : ∀ x ∈ m, 0 ≤ x ∧ x < 2 ^ n) (h0 : 0 ≤ s) (h1 : s < 2 ^ 63) (hl : m.length < 4611686018427387904) : Ev (fun k => spec_prApply.f k m s) (applyMap m s) :=
  spec_prApply.loop m s n hn hm h0 h1 hl m.length 0 0 (by omega) (by omega) (by omega) (Int.pow_pos (by decide))

/-! spec_prCompose -/
theorem spec_prCompose.loop (a b : List Int) (n : Nat) (hn : n ≤ 62) (ha : ∀ x ∈ a, 0 ≤ x ∧ x < 2 ^ n) (hb : ∀ x ∈ b, 0 ≤ x ∧ x < 2 ^ n) (hla : a.length < 4611686018427387904) (hl : b.length ≤ 1048576) (d : Nat) :
    ∀ (i : Nat) (o : List Int), b.length - i = d → i ≤ b.length → o.length = i → Ev (fun k => spec_prCompose.l0 k a o b (b.length : Int) (i : Int)) (o ++ (b.drop i).map (applyMap a)) := by
  have h16 := pow_le63 (n := n) (by omega)
  induction d with
  | zero =>
    intro i o hd hi ho
    refine now fun k => ?_
    simp only [spec_prCompose.l0]
    rw [if_neg (by omega), List.drop_eq_nil_of_le (by omega), List.map_nil, List.append_nil]
  | succ d ih =>
    intro i o hd hi ho
    have hlt : i < b.length := by omega
    have hx := hb b[i] (List.getElem_mem _)
    rw [drop_cons b i hlt, List.map_cons]
    refine Ev.step (f := fun k => (spec_prApply.f k a b[i]).bind fun t => spec_prCompose.l0 k a (o ++ [t]) b (b.length : Int) ((i + 1 : Nat) : Int)) (fun k => ?_) (Ev.bind (spec_prApply.ev a b[i] n (by omega) ha hx.1 (by omega) hla) (by simpa using ih (i + 1) (o ++ [applyMap a b[i]]) (by omega) (by omega) (by simp [ho])))
    simp only [spec_prCompose.l0]
    rw [if_pos (by omega), if_pos (by omega), if_pos (by omega), rd_get b i hlt]
    simp only [if_pos (show o.length < 17592186044416 by omega), wrap_succ i (show i < 4611686018427387904 by omega)]
theorem spec_prCompose.evg (a b : List Int) (n : Nat) (hn : n ≤ 62) (ha : ∀ x ∈ a, 0 ≤ x ∧ x < 2 ^ n) (hb : ∀ x ∈ b, 0 ≤ x ∧ x < 2 ^ n) (hla : a.length < 4611686018427387904) (hl : b.length ≤ 1048576) : Ev (fun k => spec_prCompose.f k a b) (b.map (applyMap a)) := by
  have := spec_prCompose.loop a b n hn ha hb hla hl b.length 0 [] (by omega) (by omega) rfl
  rw [List.drop_zero, List.nil_append] at this
  exact this
theorem spec_prCompose.ev (a b : List Int) (n : Nat) (hn : n ≤ 16) (ha : ∀ x ∈ a, 0 ≤ x ∧ x < 2 ^ n) (hb : ∀ x ∈ b, 0 ≤ x ∧ x < 2 ^ n) (hla : a.length < 4611686018427387904) (hl : b.length ≤ 1048576) : Ev (fun k => spec_prCompose.f k a b) (b.map (applyMap a)) :=
  spec_prCompose.evg a b n (by omega) ha hb hla hl

/-! spec_l1Own -/
theorem spec_l1Own.eq (l : List Int) (h : l.length < 17592186044416) : spec_l1Own.f l = some l := by
  unfold spec_l1Own.f
  rw [Option.bind_some, if_pos (by simpa using h)]
  rfl

/-! spec_prAdd -/
theorem spec_prAdd.loop (a b : List Int) (n : Nat) (hn : n ≤ 62) (hab : a.length = b.length) (ha : ∀ x ∈ a, 0 ≤ x ∧ x < 2 ^ n) (hb : ∀ x ∈ b, 0 ≤ x ∧ x < 2 ^ n) (hl : a.length ≤ 1048576) (d : Nat) :
    ∀ (i : Nat) (o : List Int), a.length - i = d → i ≤ a.length → o = addTo i a b → Ev (fun k => spec_prAdd.l0 k b o (a.length : Int) (i : Int)) (addTo a.length a b) := by
  have hp := pow_le63 (n := n) (by omega)
  induction d with
  | zero =>
    intro i o hd hi ho
    refine now fun k => ?_
    simp only [spec_prAdd.l0]
    rw [if_neg (by omega), ho, show i = a.length by omega]
  | succ d ih =>
    intro i o hd hi ho
    have hlt : i < a.length := by omega
    have hltb : i < b.length := by omega
    have hx := ha a[i] (List.getElem_mem _)
    have hy := hb b[i] (List.getElem_mem _)
    have hol : o.length = a.length := by rw [ho, addTo_length a b i (by omega)]
    have hoi : o[i]'(by omega) = a[i] := by
      subst ho
      exact addTo_get a b i hlt hab
    refine Ev.step (f := fun k => spec_prAdd.l0 k b (o.set i ((a[i].toNat ^^^ b[i].toNat : Nat) : Int)) (a.length : Int) ((i + 1 : Nat) : Int)) (fun k => ?_) (ih (i + 1) _ (by omega) (by omega) ?_)
    · simp only [spec_prAdd.l0]
      rw [if_pos (by omega), if_pos (by omega), if_pos (by omega), if_pos (by omega), rd_get o i (by omega), rd_get b i hltb, hoi, xor_eq hx.1 (by omega) hy.1 (by omega), wrap_succ i (by omega)]
      rfl
    · rw [ho]
      exact addTo_succ a b i hlt hab
theorem spec_prAdd.ev (a b : List Int) (n : Nat) (hn : n ≤ 62) (hab : a.length = b.length) (ha : ∀ x ∈ a, 0 ≤ x ∧ x < 2 ^ n) (hb : ∀ x ∈ b, 0 ≤ x ∧ x < 2 ^ n) (hl : a.length ≤ 1048576) : Ev (fun k => spec_prAdd.f k a b) (addSets a b) := by
  have h := spec_prAdd.loop a b n hn hab ha hb hl a.length 0 a (by omega) (by omega) (addTo_zero a b).symm
  rw [addTo_all a b hab] at h
  refine Ev.congr (f := fun k => spec_prAdd.l0 k b a (a.length : Int) ((0 : Nat) : Int)) (fun k => ?_) h
  unfold spec_prAdd.f
  rw [spec_l1Own.eq a (by omega)]
  rfl

/-! spec_prOne -/
theorem spec_prOne.loop (n : Nat) (hn : n ≤ 62) (d : Nat) : ∀ (i : Nat) (o : List Int), i + d = n → o.length = i → Ev (fun k => spec_prOne.l0 k (n : Int) o (i : Int)) (o ++ (List.range' i d).map fun j => ((2 ^ j : Nat) : Int)) := by
  induction d with
  | zero =>
    intro i o h hl
    refine now fun k => ?_
    simp only [spec_prOne.l0]
    rw [if_neg (by omega)]
    simp
  | succ d ih =>
    intro i o h hl
    have ih' := ih (i + 1) (o ++ [((2 ^ i : Nat) : Int)]) (by omega) (by simp; omega)
    rw [List.append_assoc] at ih'
    rw [List.range'_succ, List.map_cons]
    refine Ev.step (f := fun k => spec_prOne.l0 k (n : Int) (o ++ [((2 ^ i : Nat) : Int)]) ((i + 1 : Nat) : Int)) (fun k => ?_) ih'
    simp only [spec_prOne.l0]
    rw [if_pos (by omega), if_pos (by omega), if_pos (by omega), shl_one (by omega) (by omega), Int.toNat_natCast, wrap_succ i (by omega)]
theorem spec_prOne.ev (n : Nat) (hn : n ≤ 62) : Ev (fun k => spec_prOne.f k (n : Int)) (oneMap n) := by
  have := spec_prOne.loop n hn n 0 [] (by omega) rfl
  rw [List.nil_append] at this
  exact this

/-! spec_grToggles -/
theorem spec_grToggles.eq (l : List Int) (own : Bool) (hG : GoodG l) (i : Nat) (hi : i < l.length) : spec_grToggles.f l own (i : Int) = some (togg l own i) := by
  have h16 := hG.top
  have hx := hG.sets (rd l (i : Int)) (rd_mem l _ (by omega) (by omega))
  have hp := pow16 hG.top
  unfold spec_grToggles.f togg
  cases own
  · rw [if_neg (by decide), if_pos (by omega), if_pos (by omega), if_neg (by decide)]
  · have h2 : (2 : Nat) ^ i < 2 ^ 63 := Nat.pow_lt_pow_right (by decide) (by omega)
    rw [if_pos rfl, if_pos (by omega), if_pos (by omega), if_pos rfl, shl_one (by omega) (by omega), Int.toNat_natCast, or_eq hx.1 (by omega) (Int.natCast_nonneg _) (by exact_mod_cast h2)]
    rfl

/-! spec_prMap -/
theorem spec_prMap.loop (l : List Int) (own : Bool) (hG : GoodG l) (d : Nat) :
    ∀ (i : Nat) (o : List Int), l.length - i = d → i ≤ l.length → o.length = i → Ev (fun k => spec_prMap.l0 k o (l.length : Int) (i : Int) l own) (o ++ (List.range' i d).map (togg l own)) := by
  have h16 := hG.top
  induction d with
  | zero =>
    intro i o hd hi ho
    refine now fun k => ?_
    simp only [spec_prMap.l0]
    rw [if_neg (by omega)]
    simp
  | succ d ih =>
    intro i o hd hi ho
    have hlt : i < l.length := by omega
    refine Ev.step (f := fun k => spec_prMap.l0 k (o ++ [togg l own i]) (l.length : Int) ((i + 1 : Nat) : Int) l own) (fun k => ?_) (by rw [List.range'_succ, List.map_cons]; simpa using ih (i + 1) (o ++ [togg l own i]) (by omega) (by omega) (by simp [ho]))
    simp only [spec_prMap.l0]
    rw [if_pos (by omega), spec_grToggles.eq l own hG i hlt, Option.bind_some, if_pos (by omega), wrap_succ i (by omega)]
theorem spec_prMap.ev (l : List Int) (own : Bool) (hG : GoodG l) : Ev (fun k => spec_prMap.f k l own) (toggles l own) :=
  spec_prMap.loop l own hG l.length 0 [] (by omega) (by omega) rfl

/-! spec_prCircle -/
theorem ints_bounds {n : Nat} {l : List Nat} (h : ∀ x ∈ l, x < 2 ^ n) : ∀ x ∈ ints l, 0 ≤ x ∧ x < 2 ^ n := fun x hx => by
  unfold ints at hx
  obtain ⟨y, hy, rfl⟩ := List.mem_map.1 hx
  have := h y hy
  have hc : ((2 ^ n : Nat) : Int) = (2 : Int) ^ n := by simp
  omega
theorem stepLow_snoc (n : Nat) : ∀ (l : List Nat) (i x : Nat), stepLow n i (l ++ [x]) = stepLow n i l ++ [x ||| 2 ^ (n + (i + l.length))]
  | [], i, x => by simp [stepLow]
  | y :: l, i, x => by
    rw [List.cons_append]
    unfold stepLow
    rw [stepLow_snoc n l (i + 1) x, List.cons_append, List.length_cons, show i + 1 + l.length = i + (l.length + 1) by omega]
theorem pows_snoc : ∀ (d i : Nat), pows i (d + 1) = pows i d ++ [2 ^ (i + d)]
  | 0, i => by simp [pows]
  | d + 1, i => by
    show 2 ^ i :: pows (i + 1) (d + 1) = _
    rw [pows_snoc d (i + 1)]
    rw [show i + 1 + d = i + (d + 1) by omega]
    rfl
theorem stepLow_lt (n : Nat) : ∀ (l : List Nat) (i : Nat), (∀ x ∈ l, x < 2 ^ n) → i + l.length ≤ n → ∀ x ∈ stepLow n i l, x < 2 ^ (2 * n)
  | [], _, _, _ => fun x hx => by simp [stepLow] at hx
  | y :: l, i, h, hi => fun x hx => by
    rw [List.length_cons] at hi
    unfold stepLow at hx
    rcases List.mem_cons.1 hx with rfl | hx
    · exact Nat.or_lt_two_pow (Nat.lt_of_lt_of_le (h y List.mem_cons_self) (Nat.pow_le_pow_right (by decide) (by omega))) (Nat.pow_lt_pow_right (by decide) (by omega))
    · exact stepLow_lt n l (i + 1) (fun z hz => h z (List.mem_cons_of_mem _ hz)) (by omega) x hx
theorem pows_lt (n : Nat) : ∀ (d i : Nat), i + d ≤ n → ∀ x ∈ pows i d, x < 2 ^ n
  | 0, _, _ => fun x hx => by simp [pows] at hx
  | d + 1, i, h => fun x hx => by
    unfold pows at hx
    rcases List.mem_cons.1 hx with rfl | hx
    · exact Nat.pow_lt_pow_right (by decide) (by omega)
    · exact pows_lt n d (i + 1) (by omega) x hx
theorem cstep_lt {n : Nat} {T : List Nat} (hTn : T.length = n) (hT : ∀ x ∈ T, x < 2 ^ n) : ∀ x ∈ cstep n T, x < 2 ^ (2 * n) := fun x hx => by
  rcases List.mem_append.1 hx with hx | hx
  · exact stepLow_lt n T 0 hT (by omega) x hx
  · exact Nat.lt_of_lt_of_le (pows_lt n n 0 (by omega) x hx) (Nat.pow_le_pow_right (by decide) (by omega))
theorem spec_prCircle.turn (m n : Nat) (hn : n ≤ 16) (T : List Nat) (hTn : T.length = n) (hT : ∀ x ∈ T, x < 2 ^ n) (hm : m < 1000000) (d : Nat) :
    ∀ (j : Nat), j + d = m → Ev (fun k => spec_prCircle.l2 k (m : Int) (n : Int) (ints (cstep n T)) (ints ((List.range' 0 (2 * n)).map fun i => pack n (cit T j (cfst n i)))) (j : Int)) (circ n T m) := by
  have hp32 : (2 : Nat) ^ (2 * n) ≤ 2 ^ 32 := Nat.pow_le_pow_right (by decide) (by omega)
  have hlt : ∀ j, ∀ x ∈ (List.range' 0 (2 * n)).map (fun i => pack n (cit T j (cfst n i))), x < 2 ^ (2 * n) := fun j x hx => by
    obtain ⟨y, hy, rfl⟩ := List.mem_map.1 hx
    have h1 := cfst_lt (n := n) (i := y) (by have := List.mem_range'_1.1 hy; omega)
    have h2 := cit_lt hT j (cfst n y) h1.1 h1.2
    exact pack_lt h2.1 h2.2
  induction d with
  | zero =>
    intro j hd
    obtain rfl : j = m := by omega
    have e1 : wrap64 (2 * (n : Int)) = ((2 * n : Nat) : Int) := by rw [wrap_id (by omega) (by omega)]; omega
    have hone := spec_prOne.ev (2 * n) (by omega)
    have hob : ∀ x ∈ oneMap (2 * n), 0 ≤ x ∧ x < 2 ^ (2 * n) := oneMap_bounds (2 * n)
    have hadd := spec_prAdd.ev (ints ((List.range' 0 (2 * n)).map fun i => pack n (cit T j (cfst n i)))) (oneMap (2 * n)) (2 * n) (by omega) (by rw [ints_length, oneMap_length]; simp) (ints_bounds (hlt j)) hob (by rw [ints_length]; simp; omega)
    have esum : addSets (ints ((List.range' 0 (2 * n)).map fun i => pack n (cit T j (cfst n i)))) (oneMap (2 * n)) = ints ((List.range' 0 (2 * n)).map (cvec n T j)) := addSets_map _ _ _
    rw [esum] at hadd
    have hnul := spec_prNullity.ev ((List.range' 0 (2 * n)).map (cvec n T j)) (fun x hx => by
      obtain ⟨y, hy, rfl⟩ := List.mem_map.1 hx
      have := cvec_lt hT j (i := y) (by have := List.mem_range'_1.1 hy; omega)
      omega) (by simp; omega)
    obtain ⟨K1, hK1⟩ := ev_and hone hadd
    obtain ⟨K2, hK2⟩ := hnul
    refine ⟨K1 + K2 + 1, fun k hk => ?_⟩
    obtain ⟨q, rfl⟩ : ∃ q, k = q + 1 := ⟨k - 1, by omega⟩
    obtain ⟨c1, c2⟩ := hK1 q (by omega)
    have c3 : spec_prNullity.f q (ints ((List.range' 0 (2 * n)).map (cvec n T j))) = _ := hK2 q (by omega)
    show spec_prCircle.l2 (q + 1) (j : Int) (n : Int) (ints (cstep n T)) _ (j : Int) = _
    simp only [spec_prCircle.l2]
    rw [if_neg (by omega), e1, c1, Option.bind_some, c2, Option.bind_some, c3, Option.bind_some]
    rfl
  | succ d ih =>
    intro j hd
    have hmap : (ints ((List.range' 0 (2 * n)).map fun i => pack n (cit T j (cfst n i)))).map (applyMap (ints (cstep n T))) = ints ((List.range' 0 (2 * n)).map fun i => pack n (cit T (j + 1) (cfst n i))) := by
      unfold ints
      rw [List.map_map, List.map_map, List.map_map]
      refine List.map_congr_left fun i hi => ?_
      have h1 := cfst_lt (n := n) (i := i) (by have := List.mem_range'_1.1 hi; omega)
      have h2 := cit_lt hT j (cfst n i) h1.1 h1.2
      show applyMap (ints (cstep n T)) ((pack n (cit T j (cfst n i)) : Nat) : Int) = _
      rw [applyMap_ints, ap_cstep hTn hT _ h2.1 h2.2, ← cit_succ]
      rfl
    have hcomp := spec_prCompose.evg (ints (cstep n T)) (ints ((List.range' 0 (2 * n)).map fun i => pack n (cit T j (cfst n i)))) (2 * n) (by omega) (ints_bounds (cstep_lt hTn hT)) (ints_bounds (hlt j)) (by rw [ints_length, cstep_length]; omega) (by rw [ints_length]; simp; omega)
    rw [hmap] at hcomp
    obtain ⟨K, hK⟩ := ev_and hcomp (ih (j + 1) (by omega))
    refine ⟨K + 1, fun k hk => ?_⟩
    obtain ⟨q, rfl⟩ : ∃ q, k = q + 1 := ⟨k - 1, by omega⟩
    obtain ⟨c1, c2⟩ := hK q (by omega)
    show spec_prCircle.l2 (q + 1) (m : Int) (n : Int) (ints (cstep n T)) _ (j : Int) = _
    simp only [spec_prCircle.l2]
    rw [if_pos (by omega), c1, Option.bind_some, wrap_succ j (by omega)]
    exact c2
theorem spec_prCircle.ones (m n : Nat) (hn : n ≤ 16) (T : List Nat) (hTn : T.length = n) (hT : ∀ x ∈ T, x < 2 ^ n) (hm : m < 1000000) (d : Nat) :
    ∀ (i : Nat), i + d = n → Ev (fun k => spec_prCircle.l1 k (m : Int) (n : Int) (ints (stepLow n 0 T ++ pows 0 i)) (i : Int)) (circ n T m) := by
  induction d with
  | zero =>
    intro i hd
    obtain rfl : i = n := by omega
    have e1 : wrap64 (2 * (i : Int)) = ((2 * i : Nat) : Int) := by rw [wrap_id (by omega) (by omega)]; omega
    have h := spec_prCircle.turn m i hn T hTn hT hm m 0 (by omega)
    have e2 : ints ((List.range' 0 (2 * i)).map fun j => pack i (cit T 0 (cfst i j))) = oneMap (2 * i) := by
      unfold ints oneMap
      rw [List.map_map]
      refine List.map_congr_left fun j hj => ?_
      show ((pack i (cfst i j) : Nat) : Int) = _
      rw [pack_cfst (by have := List.mem_range'_1.1 hj; omega)]
    rw [e2] at h
    obtain ⟨K, hK⟩ := ev_and (spec_prOne.ev (2 * i) (by omega)) h
    refine ⟨K + 1, fun k hk => ?_⟩
    obtain ⟨q, rfl⟩ : ∃ q, k = q + 1 := ⟨k - 1, by omega⟩
    obtain ⟨c1, c2⟩ := hK q (by omega)
    show spec_prCircle.l1 (q + 1) (m : Int) (i : Int) (ints (stepLow i 0 T ++ pows 0 i)) (i : Int) = _
    simp only [spec_prCircle.l1]
    rw [if_neg (by omega), e1, c1, Option.bind_some]
    exact c2
  | succ d ih =>
    intro i hd
    have hl : (stepLow n 0 T ++ pows 0 i).length = n + i := by rw [List.length_append, stepLow_length, pows_length, hTn]
    refine Ev.step (f := fun k => spec_prCircle.l1 k (m : Int) (n : Int) (ints (stepLow n 0 T ++ pows 0 (i + 1))) ((i + 1 : Nat) : Int)) (fun k => ?_) (ih (i + 1) (by omega))
    simp only [spec_prCircle.l1]
    rw [if_pos (by omega), if_pos (by omega), if_pos (by rw [ints_length, hl]; omega), shl_one (by omega) (by omega), Int.toNat_natCast, wrap_succ i (by omega), pows_snoc, Nat.zero_add, ← List.append_assoc, ints_append (stepLow n 0 T ++ pows 0 i)]
    rfl
theorem spec_prCircle.low (m n : Nat) (hn : n ≤ 16) (T : List Nat) (hTn : T.length = n) (hT : ∀ x ∈ T, x < 2 ^ n) (hm : m < 1000000) (d : Nat) :
    ∀ (i : Nat), i + d = n → Ev (fun k => spec_prCircle.l0 k (m : Int) (n : Int) (ints T) (ints (stepLow n 0 (T.take i))) (i : Int)) (circ n T m) := by
  have hp16 : (2 : Nat) ^ n ≤ 2 ^ 16 := Nat.pow_le_pow_right (by decide) hn
  induction d with
  | zero =>
    intro i hd
    have h := spec_prCircle.ones m n hn T hTn hT hm n 0 (by omega)
    refine Ev.step (f := fun k => spec_prCircle.l1 k (m : Int) (n : Int) (ints (stepLow n 0 T ++ pows 0 0)) ((0 : Nat) : Int)) (fun k => ?_) h
    simp only [spec_prCircle.l0]
    rw [if_neg (by omega), List.take_of_length_le (by omega)]
    simp [pows]
  | succ d ih =>
    intro i hd
    have hlt : i < T.length := by omega
    have hx := hT T[i] (List.getElem_mem hlt)
    have hq : (2 : Nat) ^ (n + i) < 2 ^ 32 := Nat.pow_lt_pow_right (by decide) (by omega)
    have hl : (stepLow n 0 (T.take i)).length = i := by rw [stepLow_length, List.length_take]; omega
    refine Ev.step (f := fun k => spec_prCircle.l0 k (m : Int) (n : Int) (ints T) (ints (stepLow n 0 (T.take (i + 1)))) ((i + 1 : Nat) : Int)) (fun k => ?_) (ih (i + 1) (by omega))
    simp only [spec_prCircle.l0]
    rw [if_pos (by omega), if_pos (by omega), if_pos (by rw [ints_length]; omega), wrap_id (x := (n : Int) + (i : Int)) (by omega) (by omega), if_pos (by omega), if_pos (by rw [ints_length, hl]; omega), ints_get T i hlt, show (n : Int) + (i : Int) = ((n + i : Nat) : Int) by omega, shl_one (by omega) (by omega), Int.toNat_natCast, or_nat _ _ (by omega) (by omega), wrap_succ i (by omega), List.take_succ_eq_append_getElem hlt, stepLow_snoc, ints_append, List.length_take, Nat.min_eq_left (by omega), Nat.zero_add]
    rfl
theorem spec_prCircle.ev (l : List Int) (own : Bool) (hG : GoodG l) (m : Nat) (hm : m < 1000000) : Ev (fun k => spec_prCircle.f k l own (m : Int)) (circ l.length (togs l own) m) := by
  have ht := togs_ints l own hG
  have h16 := hG.top
  obtain ⟨K, hK⟩ := ev_and (spec_prMap.ev l own hG) (spec_prCircle.low m l.length h16 (togs l own) ht.2.1 ht.2.2 hm l.length 0 (by omega))
  refine ⟨K, fun k hk => ?_⟩
  obtain ⟨c1, c2⟩ := hK k hk
  show spec_prCircle.f k l own (m : Int) = _
  unfold spec_prCircle.f
  rw [c1, Option.bind_some, ht.1]
  exact c2

/-! spec_grAdd -/
theorem spec_grAdd.eq (l : List Nat) (own : Bool) (n : Nat) (hn : n ≤ 16) (hl : l.length = n) (hb : ∀ x ∈ l, x < 2 ^ n) (i j : Nat) (hi : i < n) (hj : j < n) : spec_grAdd.f (ints l) own (i : Int) (j : Int) = some (ints (joinL l i j)) := by
  have hp : (2 : Nat) ^ n ≤ 2 ^ 16 := Nat.pow_le_pow_right (by decide) hn
  have hpi : (2 : Nat) ^ i < 2 ^ n := Nat.pow_lt_pow_right (by decide) hi
  have hpj : (2 : Nat) ^ j < 2 ^ n := Nat.pow_lt_pow_right (by decide) hj
  have g1 := getD_lt hb i
  have h1 := set_lt hb i _ (Nat.or_lt_two_pow g1 hpj)
  have g2 := getD_lt h1 j
  have s1 : shl .i64 1 (j : Int) = ((2 ^ j : Nat) : Int) := by rw [shl_one (by omega) (by omega), Int.toNat_natCast]
  have s2 : shl .i64 1 (i : Int) = ((2 ^ i : Nat) : Int) := by rw [shl_one (by omega) (by omega), Int.toNat_natCast]
  unfold spec_grAdd.f
  simp only [Int.toNat_natCast, s1, s2]
  rw [if_pos (by omega), if_pos (by rw [ints_length]; omega), if_pos (by omega), ints_getD l i (by omega), or_nat _ _ (by omega) (by omega), ints_set, Option.bind_some, if_pos (by rw [ints_length]; omega), ints_getD _ j (by simp; omega), or_nat _ _ (by omega) (by omega), ints_set]
  rfl

/-! spec_grPath -/
theorem spec_grPath.loop (n : Nat) (own : Bool) (hn : n ≤ 16) : ∀ (d i : Nat) (l : List Nat), i + d = n - 1 → 1 ≤ n → l.length = n → (∀ x ∈ l, x < 2 ^ n) → Ev (fun k => spec_grPath.l0 k (n : Int) ((i + 1 : Nat) : Int) (ints l) own) (ints (pathGo d i l), own)
  | 0, i, l, hd, h1, hl, hb => by
    refine now fun k => ?_
    simp only [spec_grPath.l0]
    rw [if_neg (by omega)]
    rfl
  | d + 1, i, l, hd, h1, hl, hb => by
    refine Ev.step (f := fun k => spec_grPath.l0 k (n : Int) ((i + 1 + 1 : Nat) : Int) (ints (joinL l i (i + 1))) own) (fun k => ?_) (spec_grPath.loop n own hn d (i + 1) _ (by omega) h1 (by rw [joinL_length]; exact hl) (joinL_lt hb i (i + 1) (by omega) (by omega)))
    simp only [spec_grPath.l0]
    rw [if_pos (by omega), wrap_id (x := ((i + 1 : Nat) : Int) - 1) (by omega) (by omega), show ((i + 1 : Nat) : Int) - 1 = (i : Int) by omega, spec_grAdd.eq l own n hn hl hb i (i + 1) (by omega) (by omega), Option.bind_some, wrap_succ (i + 1) (by omega)]
theorem spec_grPath.ev (n : Nat) (own : Bool) (h1 : 1 ≤ n) (hn : n ≤ 16) : Ev (fun k => spec_grPath.f k (n : Int) own) (ints (pathL n), own) := by
  have h := spec_grPath.loop n own hn (n - 1) 0 (List.replicate n 0) (by omega) h1 (by simp) (zeros_lt n n)
  refine Ev.congr (f := fun k => spec_grPath.l0 k (n : Int) ((0 + 1 : Nat) : Int) (ints (List.replicate n 0)) own) (fun k => ?_) h
  unfold spec_grPath.f
  rw [if_pos (by omega), if_pos (by rw [Int.toNat_natCast]; omega), Int.toNat_natCast]
  unfold ints
  rw [List.map_replicate]
  rfl

/-! spec_grCircle -/
theorem spec_grCircle.ev (n : Nat) (own : Bool) (h1 : 3 ≤ n) (hn : n ≤ 16) : Ev (fun k => spec_grCircle.f k (n : Int) own) (ints (circleL n), own) := by
  obtain ⟨K, hK⟩ := spec_grPath.ev n own (by omega) hn
  refine ⟨K, fun k hk => ?_⟩
  have c1 : spec_grPath.f k (n : Int) own = _ := hK k hk
  show spec_grCircle.f k (n : Int) own = _
  unfold spec_grCircle.f
  rw [c1, Option.bind_some, wrap_id (by omega) (by omega), show (n : Int) - 1 = ((n - 1 : Nat) : Int) by omega]
  have h2 := spec_grAdd.eq (pathL n) own n hn (pathL_length n) (pathL_lt (by omega)) 0 (n - 1) (by omega) (by omega)
  show (spec_grAdd.f (ints (pathL n)) own ((0 : Nat) : Int) ((n - 1 : Nat) : Int)).bind _ = _
  rw [h2, Option.bind_some]
  rfl

/-! spec_TorusNullity -/
def torus (a c : Int) (own : Bool) : Int × Bool := if (decide (3 ≤ a) && decide (a ≤ 40) && (decide (3 ≤ c) && decide (c ≤ 16))) = true then (circ c.toNat (togs (ints (circleL c.toNat)) own) a.toNat, true) else (0, false)
theorem spec_TorusNullity.ev (a c : Int) (own : Bool) : Ev (fun k => spec_TorusNullity.f k a c own) (torus a c own) := by
  unfold torus
  cases e1 : (decide (3 ≤ a) && decide (a ≤ 40))
  · rw [Bool.false_and, if_neg (by decide)]
    refine ⟨1, fun k hk => ?_⟩
    obtain ⟨j, rfl⟩ : ∃ j, k = j + 1 := ⟨k - 1, by omega⟩
    show spec_TorusNullity.f (j + 1) a c own = _
    unfold spec_TorusNullity.f
    rw [spec_l1In.eq, e1, Option.bind_some, if_neg (by decide)]
    simp [spec_TorusNullity.j0]
  · cases e2 : (decide (3 ≤ c) && decide (c ≤ 16))
    · rw [Bool.and_false, if_neg (by decide)]
      refine ⟨1, fun k hk => ?_⟩
      obtain ⟨j, rfl⟩ : ∃ j, k = j + 1 := ⟨k - 1, by omega⟩
      show spec_TorusNullity.f (j + 1) a c own = _
      unfold spec_TorusNullity.f
      rw [spec_l1In.eq, e1, Option.bind_some, if_pos rfl, spec_l1In.eq, e2, Option.bind_some]
      simp [spec_TorusNullity.j0]
    · rw [Bool.and_true, if_pos rfl]
      have h1 : 3 ≤ a ∧ a ≤ 40 := by simpa using e1
      have h2 : 3 ≤ c ∧ c ≤ 16 := by simpa using e2
      obtain ⟨m, rfl⟩ := Int.eq_ofNat_of_zero_le (show 0 ≤ a by omega)
      obtain ⟨n, rfl⟩ := Int.eq_ofNat_of_zero_le (show 0 ≤ c by omega)
      have hG := circleL_good (n := n) (by omega) (by omega)
      obtain ⟨K, hK⟩ := ev_and (spec_grCircle.ev n own (by omega) (by omega)) (spec_prCircle.ev (ints (circleL n)) own hG m (by omega))
      refine ⟨K + 1, fun k hk => ?_⟩
      obtain ⟨j, rfl⟩ : ∃ j, k = j + 1 := ⟨k - 1, by omega⟩
      obtain ⟨c1, c2⟩ := hK j (by omega)
      rw [ints_length, circleL_length] at c2
      show spec_TorusNullity.f (j + 1) (m : Int) (n : Int) own = _
      unfold spec_TorusNullity.f
      rw [spec_l1In.eq, e1, Option.bind_some, if_pos rfl, spec_l1In.eq, e2, Option.bind_some]
      simp only [spec_TorusNullity.j0, Bool.not_true, Bool.false_eq_true, if_false]
      rw [c1, Option.bind_some]
      simp only []
      rw [c2, Option.bind_some]
      rfl

/-! impl_in -/
theorem impl_in.eq (x a b : Int) : impl_in.f x a b = some (decide (a ≤ x) && decide (x ≤ b)) := by
  unfold impl_in.f
  by_cases h : a ≤ x
  · rw [if_pos h]; simp [h]
  · rw [if_neg h]; simp [h]

/-! impl_isCount -/
theorem impl_isCount.eq (x : Int) : impl_isCount.f x = some (decide (1 ≤ x) && decide (x ≤ 16)) := by unfold impl_isCount.f; rw [impl_in.eq]; rfl

/-! impl_Graph_join -/
theorem impl_Graph_join.eq (l : List Nat) (own : Bool) (n : Nat) (hn : n ≤ 16) (hl : l.length = n) (hb : ∀ x ∈ l, x < 2 ^ n) (i j : Nat) (hi : i < n) (hj : j < n) : impl_Graph_join.f (ints l) own (i : Int) (j : Int) = some (ints (joinL l i j)) := by
  have hp : (2 : Nat) ^ n ≤ 2 ^ 16 := Nat.pow_le_pow_right (by decide) hn
  have hpi : (2 : Nat) ^ i < 2 ^ n := Nat.pow_lt_pow_right (by decide) hi
  have hpj : (2 : Nat) ^ j < 2 ^ n := Nat.pow_lt_pow_right (by decide) hj
  have g1 := getD_lt hb i
  have h1 := set_lt hb i _ (Nat.or_lt_two_pow g1 hpj)
  have g2 := getD_lt h1 j
  have s1 : shl .i64 1 (j : Int) = ((2 ^ j : Nat) : Int) := by rw [shl_one (by omega) (by omega), Int.toNat_natCast]
  have s2 : shl .i64 1 (i : Int) = ((2 ^ i : Nat) : Int) := by rw [shl_one (by omega) (by omega), Int.toNat_natCast]
  unfold impl_Graph_join.f
  simp only [Int.toNat_natCast, s1, s2]
  rw [if_pos (by omega), if_pos (by rw [ints_length]; omega), if_pos (by omega), ints_getD l i (by omega), or_nat _ _ (by omega) (by omega), ints_set, Option.bind_some, if_pos (by rw [ints_length]; omega), ints_getD _ j (by simp; omega), or_nat _ _ (by omega) (by omega), ints_set]
  rfl

/-! impl_PathGraph -/
theorem impl_PathGraph.loop (n : Nat) (own : Bool) (hn : n ≤ 16) : ∀ (d i : Nat) (l : List Nat), i + d = n - 1 → 1 ≤ n → l.length = n → (∀ x ∈ l, x < 2 ^ n) → Ev (fun k => impl_PathGraph.l0 k ((n : Int) - 1) (i : Int) (ints l) own) (ints (pathGo d i l), own, true)
  | 0, i, l, hd, h1, hl, hb => by
    refine now fun k => ?_
    simp only [impl_PathGraph.l0]
    rw [if_neg (by omega)]
    rfl
  | d + 1, i, l, hd, h1, hl, hb => by
    refine Ev.step (f := fun k => impl_PathGraph.l0 k ((n : Int) - 1) ((i + 1 : Nat) : Int) (ints (joinL l i (i + 1))) own) (fun k => ?_) (impl_PathGraph.loop n own hn d (i + 1) _ (by omega) h1 (by rw [joinL_length]; exact hl) (joinL_lt hb i (i + 1) (by omega) (by omega)))
    simp only [impl_PathGraph.l0]
    rw [if_pos (by omega), wrap_succ i (by omega), impl_Graph_join.eq l own n hn hl hb i (i + 1) (by omega) (by omega), Option.bind_some]
theorem impl_PathGraph.ev (n : Nat) (own : Bool) (h1 : 1 ≤ n) (hn : n ≤ 16) : Ev (fun k => impl_PathGraph.f k (n : Int) own) (ints (pathL n), own, true) := by
  have h := impl_PathGraph.loop n own hn (n - 1) 0 (List.replicate n 0) (by omega) h1 (by simp) (zeros_lt n n)
  refine Ev.congr (f := fun k => impl_PathGraph.l0 k ((n : Int) - 1) ((0 : Nat) : Int) (ints (List.replicate n 0)) own) (fun k => ?_) h
  unfold impl_PathGraph.f
  have e1 : impl_isCount.f (n : Int) = some true := by rw [impl_isCount.eq, decide_eq_true (by omega), decide_eq_true (by omega)]; rfl
  rw [e1, Option.bind_some, if_pos rfl, if_pos (by omega), if_pos (by rw [Int.toNat_natCast]; omega), Int.toNat_natCast, wrap_id (by omega) (by omega)]
  unfold ints
  rw [List.map_replicate]
  rfl

/-! impl_CircleGraph -/
theorem impl_CircleGraph.yes (n : Nat) (own : Bool) (h1 : 3 ≤ n) (hn : n ≤ 16) : Ev (fun k => impl_CircleGraph.f k (n : Int) own) (ints (circleL n), own, true) := by
  obtain ⟨K, hK⟩ := impl_PathGraph.ev n own (by omega) hn
  refine ⟨K, fun k hk => ?_⟩
  have c1 : impl_PathGraph.f k (n : Int) own = _ := hK k hk
  have e1 : impl_in.f (n : Int) 3 16 = some true := by rw [impl_in.eq, decide_eq_true (by omega), decide_eq_true (by omega)]; rfl
  show impl_CircleGraph.f k (n : Int) own = _
  unfold impl_CircleGraph.f
  rw [e1, Option.bind_some, if_pos rfl, c1, Option.bind_some, wrap_id (by omega) (by omega), show (n : Int) - 1 = ((n - 1 : Nat) : Int) by omega]
  have h2 := impl_Graph_join.eq (pathL n) own n hn (pathL_length n) (pathL_lt (by omega)) 0 (n - 1) (by omega) (by omega)
  show (impl_Graph_join.f (ints (pathL n)) own ((0 : Nat) : Int) ((n - 1 : Nat) : Int)).bind _ = _
  rw [h2, Option.bind_some]
  rfl
theorem impl_CircleGraph.no (a : Int) (own : Bool) (h : (decide (3 ≤ a) && decide (a ≤ 16)) = false) (k : Nat) : impl_CircleGraph.f k a own = some ([], false, false) := by
  unfold impl_CircleGraph.f
  rw [impl_in.eq, h, Option.bind_some, if_neg (by decide)]

/-! impl_isSide -/
theorem impl_isSide.eq (a : Int) : impl_isSide.f a 1 = some (isSide a) := by
  unfold impl_isSide.f
  rw [impl_in.eq]
  rfl

/-! impl_has -/
theorem impl_has.eq (x i : Int) (hx : 0 ≤ x) (hx1 : x < 2 ^ 63) (hi : 0 ≤ i) : impl_has.f x i = some (bit x i) := by unfold impl_has.f; rw [if_pos hi, has_bit hx hx1 hi]

/-! impl_apply -/
theorem impl_apply.loop (m : List Int) (s : Int) (n : Nat) (hn : n ≤ 62) (hm : ∀ x ∈ m, 0 ≤ x ∧ x < 2 ^ n) (h0 : 0 ≤ s) (h1 : s < 2 ^ 63) (hl : m.length < 4611686018427387904) (d : Nat) :
    ∀ (i : Nat) (o : Int), m.length - i = d → i ≤ m.length → 0 ≤ o → o < 2 ^ n → Ev (fun k => impl_apply.l0 k s o m (m.length : Int) (i : Int)) (applyGo s o i (m.drop i)) := by
  have hp := pow_le63 (n := n) (by omega)
  induction d with
  | zero =>
    intro i o hd hi ho0 ho1
    refine now fun k => ?_
    simp only [impl_apply.l0]
    rw [if_neg (by omega), List.drop_eq_nil_of_le (by omega)]
    rfl
  | succ d ih =>
    intro i o hd hi ho0 ho1
    have hlt : i < m.length := by omega
    have hx := hm m[i] (List.getElem_mem _)
    have hin := impl_has.eq s (i : Int) h0 h1 (by omega)
    rw [drop_cons m i hlt, applyGo]
    cases e : bit s (i : Int)
    · refine Ev.step (f := fun k => impl_apply.l0 k s o m (m.length : Int) ((i + 1 : Nat) : Int)) (fun k => ?_) (by simpa using ih (i + 1) o (by omega) (by omega) ho0 ho1)
      simp only [impl_apply.l0]
      rw [if_pos (by omega), if_pos (by omega), if_pos (by omega), hin, Option.bind_some, e, wrap_succ i (by omega)]
      rfl
    · refine Ev.step (f := fun k => impl_apply.l0 k s ((o.toNat ^^^ m[i].toNat : Nat) : Int) m (m.length : Int) ((i + 1 : Nat) : Int)) (fun k => ?_) (by simpa using ih (i + 1) _ (by omega) (by omega) (by omega) (xor_lt ho1 hx.2 ho0 hx.1))
      simp only [impl_apply.l0]
      rw [if_pos (by omega), if_pos (by omega), if_pos (by omega), hin, Option.bind_some, e, if_pos rfl, rd_get m i hlt, xor_eq ho0 (by omega) hx.1 (by omega), wrap_succ i (by omega)]
theorem impl_apply.ev (m : List Int) (s : Int) (n : Nat) (hn : n ≤ 62) (hm : ∀ x ∈ m, 0 ≤ x ∧ x < 2 ^ n) (h0 : 0 ≤ s) (h1 : s < 2 ^ 63) (hl : m.length < 4611686018427387904) : Ev (fun k => impl_apply.f k m s) (applyMap m s) :=
  impl_apply.loop m s n hn hm h0 h1 hl m.length 0 0 (by omega) (by omega) (by omega) (Int.pow_pos (by decide))

/-! bits_Len64 -/
theorem bits_Len64.tab_rows : ∀ i, i < 256 → bt (⟨#[0, 1, 2, 2, 3, 3, 3, 3, 4, 4, 4, 4, 4, 4, 4, 4, 5, 5, 5, 5, 5, 5, 5, 5, 5, 5, 5, 5, 5, 5, 5, 5, 6, 6, 6, 6, 6, 6, 6, 6, 6, 6, 6, 6, 6, 6, 6, 6, 6, 6, 6, 6, 6, 6, 6, 6, 6, 6, 6, 6, 6, 6, 6, 6, 7, 7, 7, 7, 7, 7, 7, 7, 7, 7, 7, 7, 7, 7, 7, 7, 7, 7, 7, 7, 7, 7, 7, 7, 7, 7, 7, 7, 7, 7, 7, 7, 7, 7, 7, 7, 7, 7, 7, 7, 7, 7, 7, 7, 7, 7, 7, 7, 7, 7, 7, 7, 7, 7, 7, 7, 7, 7, 7, 7, 7, 7, 7, 7, 8, 8, 8, 8, 8, 8, 8, 8, 8, 8, 8, 8, 8, 8, 8, 8, 8, 8, 8, 8, 8, 8, 8, 8, 8, 8, 8, 8, 8, 8, 8, 8, 8, 8, 8, 8, 8, 8, 8, 8, 8, 8, 8, 8, 8, 8, 8, 8, 8, 8, 8, 8, 8, 8, 8, 8, 8, 8, 8, 8, 8, 8, 8, 8, 8, 8, 8, 8, 8, 8, 8, 8, 8, 8, 8, 8, 8, 8, 8, 8, 8, 8, 8, 8, 8, 8, 8, 8, 8, 8, 8, 8, 8, 8, 8, 8, 8, 8, 8, 8, 8, 8, 8, 8, 8, 8, 8, 8, 8, 8, 8, 8, 8, 8, 8, 8, 8, 8, 8, 8, 8, 8, 8, 8, 8, 8, 8, 8]⟩ : ByteArray) ((i : Nat) : Int) = ((blk 8 i : Nat) : Int) := by decide +kernel
theorem bits_Len64.tab (i : Nat) (h : i < 256) : bt (⟨#[0, 1, 2, 2, 3, 3, 3, 3, 4, 4, 4, 4, 4, 4, 4, 4, 5, 5, 5, 5, 5, 5, 5, 5, 5, 5, 5, 5, 5, 5, 5, 5, 6, 6, 6, 6, 6, 6, 6, 6, 6, 6, 6, 6, 6, 6, 6, 6, 6, 6, 6, 6, 6, 6, 6, 6, 6, 6, 6, 6, 6, 6, 6, 6, 7, 7, 7, 7, 7, 7, 7, 7, 7, 7, 7, 7, 7, 7, 7, 7, 7, 7, 7, 7, 7, 7, 7, 7, 7, 7, 7, 7, 7, 7, 7, 7, 7, 7, 7, 7, 7, 7, 7, 7, 7, 7, 7, 7, 7, 7, 7, 7, 7, 7, 7, 7, 7, 7, 7, 7, 7, 7, 7, 7, 7, 7, 7, 7, 8, 8, 8, 8, 8, 8, 8, 8, 8, 8, 8, 8, 8, 8, 8, 8, 8, 8, 8, 8, 8, 8, 8, 8, 8, 8, 8, 8, 8, 8, 8, 8, 8, 8, 8, 8, 8, 8, 8, 8, 8, 8, 8, 8, 8, 8, 8, 8, 8, 8, 8, 8, 8, 8, 8, 8, 8, 8, 8, 8, 8, 8, 8, 8, 8, 8, 8, 8, 8, 8, 8, 8, 8, 8, 8, 8, 8, 8, 8, 8, 8, 8, 8, 8, 8, 8, 8, 8, 8, 8, 8, 8, 8, 8, 8, 8, 8, 8, 8, 8, 8, 8, 8, 8, 8, 8, 8, 8, 8, 8, 8, 8, 8, 8, 8, 8, 8, 8, 8, 8, 8, 8, 8, 8, 8, 8, 8, 8]⟩ : ByteArray) (i : Int) = ((blen i : Nat) : Int) := by rw [bits_Len64.tab_rows i h, blen_blk 8 i h]
/-- The steps behind the first test, with a table. -/
def bits_Len64.body (T : ByteArray) (x0 x2 : Int) : Option Int := if x0 ≥ 65536 then (if (x0 / 65536) ≥ 256 then (if 0 ≤ (((x0 / 65536) / 256) % 256) then (if (((x0 / 65536) / 256) % 256) < 256 then (some (wrap64 ((wrap64 ((wrap64 (x2 + 16)) + 8)) + (wrap64 (bt T (((x0 / 65536) / 256) % 256)))))) else (none)) else (none)) else (if 0 ≤ ((x0 / 65536) % 256) then (if ((x0 / 65536) % 256) < 256 then (some (wrap64 ((wrap64 (x2 + 16)) + (wrap64 (bt T ((x0 / 65536) % 256)))))) else (none)) else (none))) else (if x0 ≥ 256 then (if 0 ≤ ((x0 / 256) % 256) then (if ((x0 / 256) % 256) < 256 then (some (wrap64 ((wrap64 (x2 + 8)) + (wrap64 (bt T ((x0 / 256) % 256)))))) else (none)) else (none)) else (if 0 ≤ ((x0) % 256) then (if ((x0) % 256) < 256 then (some (wrap64 (x2 + (wrap64 (bt T ((x0) % 256)))))) else (none)) else (none)))
theorem bits_Len64.steps (T : ByteArray) (tab : ∀ i : Nat, i < 256 → bt T (i : Int) = ((blen i : Nat) : Int)) (n : Nat) (x : Nat) (hn : n ≤ 32) (hx : x < 4294967296) : bits_Len64.body T (x : Int) (n : Int) = some (((n + blen x : Nat) : Int)) := by
  have tb : ∀ (y : Nat), y < 256 → ((y : Int) % 256) = ((y : Nat) : Int) := fun y h => by omega
  have bl : ∀ (y : Nat), y < 256 → blen y ≤ 8 := fun y h => blen_le h
  unfold bits_Len64.body
  by_cases e1 : x ≥ 65536
  · rw [if_pos (by omega)]
    by_cases e2 : x / 65536 ≥ 256
    · have hb := blen_shift 24 x (by rw [show (2 : Nat) ^ 24 = 16777216 from rfl]; omega)
      rw [show (2 : Nat) ^ 24 = 16777216 from rfl] at hb
      have hl := bl (x / 16777216) (by omega)
      have he : ((x : Int) / 65536) / 256 % 256 = ((x / 16777216 : Nat) : Int) := by omega
      rw [if_pos (by omega), if_pos (by omega), if_pos (by omega), he, tab _ (by omega), wrap_id (x := (n : Int) + 16) (by omega) (by omega), wrap_id (x := (n : Int) + 16 + 8) (by omega) (by omega), wrap_id (x := ((blen (x / 16777216) : Nat) : Int)) (by omega) (by omega), wrap_id (by omega) (by omega), hb]
      congr 1
      omega
    · have hb := blen_shift 16 x (by rw [show (2 : Nat) ^ 16 = 65536 from rfl]; omega)
      rw [show (2 : Nat) ^ 16 = 65536 from rfl] at hb
      have hl := bl (x / 65536) (by omega)
      have he : ((x : Int) / 65536) % 256 = ((x / 65536 : Nat) : Int) := by omega
      rw [if_neg (by omega), if_pos (by omega), if_pos (by omega), he, tab _ (by omega), wrap_id (x := (n : Int) + 16) (by omega) (by omega), wrap_id (x := ((blen (x / 65536) : Nat) : Int)) (by omega) (by omega), wrap_id (by omega) (by omega), hb]
      congr 1
      omega
  · rw [if_neg (by omega)]
    by_cases e2 : x ≥ 256
    · have hb := blen_shift 8 x (by rw [show (2 : Nat) ^ 8 = 256 from rfl]; omega)
      rw [show (2 : Nat) ^ 8 = 256 from rfl] at hb
      have hl := bl (x / 256) (by omega)
      have he : ((x : Int) / 256) % 256 = ((x / 256 : Nat) : Int) := by omega
      rw [if_pos (by omega), if_pos (by omega), if_pos (by omega), he, tab _ (by omega), wrap_id (x := (n : Int) + 8) (by omega) (by omega), wrap_id (x := ((blen (x / 256) : Nat) : Int)) (by omega) (by omega), wrap_id (by omega) (by omega), hb]
      congr 1
      omega
    · have hl := bl x (by omega)
      have he : (x : Int) % 256 = (x : Int) := by omega
      rw [if_neg (by omega), if_pos (by omega), if_pos (by omega), he, tab _ (by omega), wrap_id (x := ((blen x : Nat) : Int)) (by omega) (by omega), wrap_id (by omega) (by omega)]
      congr 1
theorem bits_Len64.tail (k n : Nat) (x : Nat) (hn : n ≤ 32) (hx : x < 4294967296) : bits_Len64.j0 (k + 1) (x : Int) (n : Int) = some (((n + blen x : Nat) : Int)) :=
  bits_Len64.steps (⟨#[0, 1, 2, 2, 3, 3, 3, 3, 4, 4, 4, 4, 4, 4, 4, 4, 5, 5, 5, 5, 5, 5, 5, 5, 5, 5, 5, 5, 5, 5, 5, 5, 6, 6, 6, 6, 6, 6, 6, 6, 6, 6, 6, 6, 6, 6, 6, 6, 6, 6, 6, 6, 6, 6, 6, 6, 6, 6, 6, 6, 6, 6, 6, 6, 7, 7, 7, 7, 7, 7, 7, 7, 7, 7, 7, 7, 7, 7, 7, 7, 7, 7, 7, 7, 7, 7, 7, 7, 7, 7, 7, 7, 7, 7, 7, 7, 7, 7, 7, 7, 7, 7, 7, 7, 7, 7, 7, 7, 7, 7, 7, 7, 7, 7, 7, 7, 7, 7, 7, 7, 7, 7, 7, 7, 7, 7, 7, 7, 8, 8, 8, 8, 8, 8, 8, 8, 8, 8, 8, 8, 8, 8, 8, 8, 8, 8, 8, 8, 8, 8, 8, 8, 8, 8, 8, 8, 8, 8, 8, 8, 8, 8, 8, 8, 8, 8, 8, 8, 8, 8, 8, 8, 8, 8, 8, 8, 8, 8, 8, 8, 8, 8, 8, 8, 8, 8, 8, 8, 8, 8, 8, 8, 8, 8, 8, 8, 8, 8, 8, 8, 8, 8, 8, 8, 8, 8, 8, 8, 8, 8, 8, 8, 8, 8, 8, 8, 8, 8, 8, 8, 8, 8, 8, 8, 8, 8, 8, 8, 8, 8, 8, 8, 8, 8, 8, 8, 8, 8, 8, 8, 8, 8, 8, 8, 8, 8, 8, 8, 8, 8, 8, 8, 8, 8, 8, 8]⟩ : ByteArray) bits_Len64.tab n x hn hx
theorem bits_Len64.eq (k : Nat) (x : Nat) (hx : x < 2 ^ 64) : bits_Len64.f (k + 1) (x : Int) = some ((blen x : Nat) : Int) := by
  unfold bits_Len64.f
  by_cases e : x ≥ 4294967296
  · have hb := blen_shift 32 x (by rw [show (2 : Nat) ^ 32 = 4294967296 from rfl]; omega)
    rw [show (2 : Nat) ^ 32 = 4294967296 from rfl] at hb
    have := bits_Len64.tail k 32 (x / 4294967296) (by omega) (by omega)
    rw [if_pos (by omega), show (x : Int) / 4294967296 = ((x / 4294967296 : Nat) : Int) by omega]
    refine this.trans ?_
    rw [hb, Nat.add_comm]
  · have := bits_Len64.tail k 0 x (by omega) (by omega)
    rw [if_neg (by omega)]
    refine this.trans ?_
    rw [Nat.zero_add]

/-! bits_Len -/
theorem bits_Len.eq (k : Nat) (x : Nat) (hx : x < 2 ^ 64) : bits_Len.f (k + 1) (x : Int) = some ((blen x : Nat) : Int) := by
  unfold bits_Len.f
  rw [bits_Len64.eq k x hx]
  rfl

/-! impl_top -/
theorem impl_top.eq (k : Nat) (x : Nat) (hx : x < 2 ^ 63) : impl_top.f (k + 1) (x : Int) = some (pdeg x) := by
  have e : IntKind.u64.wrap (x : Int) = (x : Int) := by
    show (x : Int) % _ = _
    exact Int.emod_eq_of_lt (by omega) (by show (x : Int) < 18446744073709551616; omega)
  have hb : blen x ≤ 63 := blen_le hx
  unfold impl_top.f
  rw [e, bits_Len.eq k x (by omega), Option.bind_some, wrap_id (by omega) (by omega)]
  rfl

/-! impl_reduced -/
theorem impl_reduced.step_eq (k : Nat) (s b : Nat) (hs : s < 2 ^ 62) (hb : b < 2 ^ 62) (h0 : b ≠ 0) : impl_reduced.step (k + 1) (s : Int) (b : Int) = some (redOne s b : Int) := by
  have h1 := blen_ne h0
  unfold impl_reduced.step redOne
  rw [impl_top.eq k b (by omega), Option.bind_some, impl_has.eq (s : Int) (pdeg b) (by omega) (by omega) (by unfold pdeg; omega), Option.bind_some]
  have e1 : bit (s : Int) (pdeg b) = s.testBit (blen b - 1) := by
    unfold bit pdeg
    rw [show ((blen b : Int) - 1).toNat = blen b - 1 by omega]
    rfl
  rw [e1]
  split
  · rw [xor_nat s b (by omega) (by omega)]
  · rfl
theorem impl_reduced.go_eq (k : Nat) : ∀ (l : List Nat) (s : Nat), s < 2 ^ 62 → (∀ b ∈ l, b < 2 ^ 62 ∧ b ≠ 0) → impl_reduced.go (k + 1) (ints l) (s : Int) = some ((l.foldl redOne s : Nat) : Int)
  | [], s, _, _ => rfl
  | b :: l, s, hs, h => by
    have hb := h b List.mem_cons_self
    show impl_reduced.go (k + 1) ((b : Int) :: ints l) (s : Int) = _
    unfold impl_reduced.go
    rw [impl_reduced.step_eq k s b hs hb.1 hb.2, Option.bind_some, impl_reduced.go_eq k l (redOne s b) (redOne_lt hs hb.1) (fun x hx => h x (List.mem_cons_of_mem _ hx))]
    rfl
theorem impl_reduced.eq (k : Nat) (l : List Nat) (s : Nat) (hs : s < 2 ^ 62) (h : ∀ b ∈ l, b < 2 ^ 62 ∧ b ≠ 0) : impl_reduced.f (k + 1) (ints l) (s : Int) = some (red l s : Int) := by
  unfold impl_reduced.f
  have e1 : (ints l).reverse = ints l.reverse := by unfold ints; rw [List.map_reverse]
  rw [e1, impl_reduced.go_eq k l.reverse s hs (fun b hb => h b (by simpa using hb)), List.foldl_reverse]
  rfl

/-! impl_extended -/
theorem impl_extended.tp_eq (k b : Nat) (hb : b < 2 ^ 62) : impl_extended.tp (k + 1) (b : Int) = pdeg b ∧ impl_extended.okB (k + 1) (b : Int) = true := by
  have h1 : blen b ≤ 62 := blen_le hb
  unfold impl_extended.tp impl_extended.okB
  rw [impl_top.eq k b (by omega)]
  refine ⟨rfl, ?_⟩
  simp only [Bool.and_eq_true, decide_eq_true_eq]
  unfold pdeg
  omega
theorem impl_extended.go_eq (k : Nat) (t : Nat) (ht : t < 2 ^ 62) (h0 : t ≠ 0) : ∀ l : List Nat, (∀ b ∈ l, b < 2 ^ 62) → impl_extended.go (k + 1) (t : Int) (ints l) = some (ints (l.map (putOne t)))
  | [], _ => rfl
  | b :: l, h => by
    have hb := h b List.mem_cons_self
    have h1 := blen_ne h0
    show impl_extended.go (k + 1) (t : Int) ((b : Int) :: ints l) = _
    unfold impl_extended.go
    rw [impl_top.eq k t (by omega), Option.bind_some, impl_has.eq (b : Int) (pdeg t) (by omega) (by omega) (by unfold pdeg; omega), Option.bind_some, impl_extended.go_eq k t ht h0 l (fun x hx => h x (List.mem_cons_of_mem _ hx)), Option.bind_some]
    have e1 : bit (b : Int) (pdeg t) = b.testBit (blen t - 1) := by
      unfold bit pdeg
      rw [show ((blen t : Int) - 1).toNat = blen t - 1 by omega]
      rfl
    rw [e1, xor_nat b t (by omega) (by omega), List.map_cons]
    unfold putOne
    show some _ = some (_ :: _)
    congr 2
    split <;> rfl
theorem impl_extended.eq (k : Nat) (l : List Nat) (s : Nat) (hs : s < 2 ^ 62) (hl : ∀ b ∈ l, b < 2 ^ 62) (hB : Basis l) (hn : l.length ≤ 1048576) : impl_extended.f (k + 1) (ints l) (s : Int) = some (ints (put l s)) := by
  have hr := red_lt l s hl hs
  have hc := red_clean l s hB
  unfold impl_extended.f put
  rw [impl_reduced.eq k l s hs (fun b hb => ⟨hl b hb, hB.pos b hb⟩), Option.bind_some]
  by_cases hz : red l s = 0
  · rw [if_pos (by omega), if_pos hz]
  · rw [if_neg (by omega), if_neg hz]
    generalize red l s = t at hr hc hz ⊢
    rw [impl_extended.go_eq k t hr hz l hl, Option.bind_some]
    have hp := putTop_perm hB hz hc
    have hT := putTop_basis hB hz hc
    have hlo := putTop_lt hl hr
    have ea : ints (l.map (putOne t)) ++ [(t : Int)] = ints (l.map (putOne t) ++ [t]) := by rw [ints_append]; rfl
    rw [ea]
    have hmem : ∀ x ∈ ints (l.map (putOne t) ++ [t]), ∃ b : Nat, x = (b : Int) ∧ b ∈ putTop l t := fun x hx => by
      unfold ints at hx
      obtain ⟨b, hb, rfl⟩ := List.mem_map.1 hx
      exact ⟨b, rfl, hp.mem_iff.1 hb⟩
    have hfit : impl_extended.fit (k + 1) (ints (l.map (putOne t) ++ [t])) = true := by
      unfold impl_extended.fit
      simp only [Bool.and_eq_true, List.all_eq_true, decide_eq_true_eq]
      refine ⟨⟨fun x hx => ?_, fun x hx y hy => ?_⟩, ?_⟩
      · obtain ⟨b, rfl, hb⟩ := hmem x hx
        exact (impl_extended.tp_eq k b (hlo b hb)).2
      · obtain ⟨b, rfl, hb⟩ := hmem x hx
        obtain ⟨c, rfl, hc2⟩ := hmem y hy
        rw [(impl_extended.tp_eq k b (hlo b hb)).1, (impl_extended.tp_eq k c (hlo c hc2)).1]
        simp only [Bool.or_eq_true, bne_iff_ne, beq_iff_eq]
        by_cases e : b = c
        · exact .inr (by rw [e])
        · refine .inl fun e2 => e ?_
          have e3 : blen b = blen c := by unfold pdeg at e2; omega
          have key : ∀ (r : List Nat), r.Pairwise (fun a b => blen a < blen b) → b ∈ r → c ∈ r → b = c := by
            intro r
            induction r with
            | nil => intro _ hx; simp at hx
            | cons d r ih =>
              intro hpw h1 h2
              obtain ⟨p1, p2⟩ := List.pairwise_cons.1 hpw
              rcases List.mem_cons.1 h1 with e5 | h1
              · rcases List.mem_cons.1 h2 with e6 | h2
                · rw [e5, e6]
                · have := p1 c h2; rw [← e5] at this; omega
              · rcases List.mem_cons.1 h2 with e6 | h2
                · have := p1 b h1; rw [← e6] at this; omega
                · exact ih p2 h1 h2
          exact key _ hT.up hb hc2
      · rw [ints_length, List.length_append, List.length_map, List.length_singleton]
        omega
    rw [if_pos hfit]
    congr 1
    have hs := List.pairwise_mergeSort (le := fun x y : Int => !decide (impl_extended.tp (k + 1) y < impl_extended.tp (k + 1) x)) (fun a b c h1 h2 => by simp at h1 h2 ⊢; omega) (fun a b => by simp; omega) (ints (l.map (putOne t) ++ [t]))
    refine List.Perm.eq_of_pairwise (le := fun x y : Int => impl_extended.tp (k + 1) x ≤ impl_extended.tp (k + 1) y) (fun a b ha hb h1 h2 => ?_) (hs.imp fun h => by simpa using h) ?_ ((List.mergeSort_perm _ _).trans (hp.map _))
    · obtain ⟨x, rfl, hx⟩ := hmem a ((List.mergeSort_perm _ _).mem_iff.1 ha)
      have hfa := impl_extended.fit_apart hfit
      have hb2 : b ∈ ints (l.map (putOne t) ++ [t]) := (hp.map _).mem_iff.2 hb
      exact hfa _ ((List.mergeSort_perm _ _).mem_iff.1 ha) b hb2 (Int.le_antisymm h1 h2)
    · unfold ints
      rw [List.pairwise_map]
      refine hT.up.imp_of_mem (fun {a b} ha hb h => ?_)
      rw [(impl_extended.tp_eq k a (hlo a ha)).1, (impl_extended.tp_eq k b (hlo b hb)).1]
      unfold pdeg
      omega

/-! impl_Graph_toggles -/
theorem impl_Graph_toggles.eq (l : List Int) (own : Bool) (hG : GoodG l) (i : Nat) (hi : i < l.length) : impl_Graph_toggles.f l own (i : Int) = some (togg l own i) := by
  have h16 := hG.top
  have hx := hG.sets (rd l (i : Int)) (rd_mem l _ (by omega) (by omega))
  have hp := pow16 hG.top
  unfold impl_Graph_toggles.f togg
  cases own
  · rw [if_neg (by decide), if_pos (by omega), if_pos (by omega), if_neg (by decide)]
  · have h2 : (2 : Nat) ^ i < 2 ^ 63 := Nat.pow_lt_pow_right (by decide) (by omega)
    rw [if_pos rfl, if_pos (by omega), if_pos (by omega), if_pos rfl, shl_one (by omega) (by omega), Int.toNat_natCast, or_eq hx.1 (by omega) (Int.natCast_nonneg _) (by exact_mod_cast h2)]
    rfl
end Go.Proofs.Ytcdphbpbfmjheaa.Pure
