/- What the functions of FnExactPathProduct compute, in plain words. -/
import Derived.Test.YtokgnjbnckmndaaPFnExactPathProductx9
import Derived.Test.YtokgnjbnckmndaaM1
import Derived.Test.YtokgnjbnckmndaaM2
import Derived.Test.YtokgnjbnckmndaaM4
import Derived.Test.YtokgnjbnckmndaaM5
import Derived.Test.YtokgnjbnckmndaaM6
import Derived.Test.YtokgnjbnckmndaaM8
import Derived.Test.YtokgnjbnckmndaaM10
import Derived.Test.YtokgnjbnckmndaaQFnExactPathProduct0
namespace Go.Proofs.Ytokgnjbnckmndaa.Pure
open Go.RowKit Go.Proofs.Ytokgnjbnckmndaa.PFnExactPathProduct Go.Proofs.YtokgnjbnckmndaaW.PrintWords Go.Proofs.YtokgnjbnckmndaaW.PrintLast Go.Proofs.YtokgnjbnckmndaaW.PrintMore Go.Proofs.YtokgnjbnckmndaaM
set_option linter.unusedVariables false
set_option linter.unusedSimpArgs false
/-! impl_reduced -/
theorem impl_reduced.step_eq (k : Nat) (s b : Nat) (hs : s < 2 ^ 62) (hb : b < 2 ^ 62) (h0 : b ≠ 0) : impl_reduced.step (k + 1) (s : Int) (b : Int) = some (redOne s b : Int) := by
  have h1 := blen_ne h0
  unfold impl_reduced.step redOne
  rw [impl_top.eq k b (by omega), Option.bind_some, impl_has.eq (s : Int) (pdeg b) (by omega) (by omega) (by unfold pdeg; omega), Option.bind_some]
  have e1 : bit (s : Int) (pdeg b) = s.testBit (blen b - 1) := by
    unfold bit pdeg
    rw [show ((blen b : Int) - 1).toNat = blen b - 1 by omega]
    rfl
  rw [e1]
  split
  · rw [xor_nat s b (by omega) (by omega)]
  · rfl
theorem impl_reduced.go_eq (k : Nat) : ∀ (l : List Nat) (s : Nat), s < 2 ^ 62 → (∀ b ∈ l, b < 2 ^ 62 ∧ b ≠ 0) → impl_reduced.go (k + 1) (ints l) (s : Int) = some ((l.foldl redOne s : Nat) : Int)
  | [], s, _, _ => rfl
  | b :: l, s, hs, h => by
    have hb := h b List.mem_cons_self
    show impl_reduced.go (k + 1) ((b : Int) :: ints l) (s : Int) = _
    unfold impl_reduced.go
    rw [impl_reduced.step_eq k s b hs hb.1 hb.2, Option.bind_some, impl_reduced.go_eq k l (redOne s b) (redOne_lt hs hb.1) (fun x hx => h x (List.mem_cons_of_mem _ hx))]
    rfl
theorem impl_reduced.eq (k : Nat) (l : List Nat) (s : Nat) (hs : s < 2 ^ 62) (h : ∀ b ∈ l, b < 2 ^ 62 ∧ b ≠ 0) : impl_reduced.f (k + 1) (ints l) (s : Int) = some (red l s : Int) := by
  unfold impl_reduced.f
  have e1 : (ints l).reverse = ints l.reverse := by unfold ints; rw [List.map_reverse]
  rw [e1, impl_reduced.go_eq k l.reverse s hs (fun b hb => h b (by simpa using hb)), List.foldl_reverse]
  rfl

/-! impl_extended -/
theorem impl_extended.tp_eq (k b : Nat) (hb : b < 2 ^ 62) : impl_extended.tp (k + 1) (b : Int) = pdeg b ∧ impl_extended.okB (k + 1) (b : Int) = true := by
  have h1 : blen b ≤ 62 := blen_le hb
  unfold impl_extended.tp impl_extended.okB
  rw [impl_top.eq k b (by omega)]
  refine ⟨rfl, ?_⟩
  simp only [Bool.and_eq_true, decide_eq_true_eq]
  unfold pdeg
  omega
theorem impl_extended.go_eq (k : Nat) (t : Nat) (ht : t < 2 ^ 62) (h0 : t ≠ 0) : ∀ l : List Nat, (∀ b ∈ l, b < 2 ^ 62) → impl_extended.go (k + 1) (t : Int) (ints l) = some (ints (l.map (putOne t)))
  | [], _ => rfl
  | b :: l, h => by
    have hb := h b List.mem_cons_self
    have h1 := blen_ne h0
    show impl_extended.go (k + 1) (t : Int) ((b : Int) :: ints l) = _
    unfold impl_extended.go
    rw [impl_top.eq k t (by omega), Option.bind_some, impl_has.eq (b : Int) (pdeg t) (by omega) (by omega) (by unfold pdeg; omega), Option.bind_some, impl_extended.go_eq k t ht h0 l (fun x hx => h x (List.mem_cons_of_mem _ hx)), Option.bind_some]
    have e1 : bit (b : Int) (pdeg t) = b.testBit (blen t - 1) := by
      unfold bit pdeg
      rw [show ((blen t : Int) - 1).toNat = blen t - 1 by omega]
      rfl
    rw [e1, xor_nat b t (by omega) (by omega), List.map_cons]
    unfold putOne
    show some _ = some (_ :: _)
    congr 2
    split <;> rfl
theorem impl_extended.eq (k : Nat) (l : List Nat) (s : Nat) (hs : s < 2 ^ 62) (hl : ∀ b ∈ l, b < 2 ^ 62) (hB : Basis l) (hn : l.length ≤ 1048576) : impl_extended.f (k + 1) (ints l) (s : Int) = some (ints (put l s)) := by
  have hr := red_lt l s hl hs
  have hc := red_clean l s hB
  unfold impl_extended.f put
  rw [impl_reduced.eq k l s hs (fun b hb => ⟨hl b hb, hB.pos b hb⟩), Option.bind_some]
  by_cases hz : red l s = 0
  · rw [if_pos (by omega), if_pos hz]
  · rw [if_neg (by omega), if_neg hz]
    generalize red l s = t at hr hc hz ⊢
    rw [impl_extended.go_eq k t hr hz l hl, Option.bind_some]
    have hp := putTop_perm hB hz hc
    have hT := putTop_basis hB hz hc
    have hlo := putTop_lt hl hr
    have ea : ints (l.map (putOne t)) ++ [(t : Int)] = ints (l.map (putOne t) ++ [t]) := by rw [ints_append]; rfl
    rw [ea]
    have hmem : ∀ x ∈ ints (l.map (putOne t) ++ [t]), ∃ b : Nat, x = (b : Int) ∧ b ∈ putTop l t := fun x hx => by
      unfold ints at hx
      obtain ⟨b, hb, rfl⟩ := List.mem_map.1 hx
      exact ⟨b, rfl, hp.mem_iff.1 hb⟩
    have hfit : impl_extended.fit (k + 1) (ints (l.map (putOne t) ++ [t])) = true := by
      unfold impl_extended.fit
      simp only [Bool.and_eq_true, List.all_eq_true, decide_eq_true_eq]
      refine ⟨⟨fun x hx => ?_, fun x hx y hy => ?_⟩, ?_⟩
      · obtain ⟨b, rfl, hb⟩ := hmem x hx
        exact (impl_extended.tp_eq k b (hlo b hb)).2
      · obtain ⟨b, rfl, hb⟩ := hmem x hx
        obtain ⟨c, rfl, hc2⟩ := hmem y hy
        rw [(impl_extended.tp_eq k b (hlo b hb)).1, (impl_extended.tp_eq k c (hlo c hc2)).1]
        simp only [Bool.or_eq_true, bne_iff_ne, beq_iff_eq]
        by_cases e : b = c
        · exact .inr (by rw [e])
        · refine .inl fun e2 => e ?_
          have e3 : blen b = blen c := by unfold pdeg at e2; omega
          have key : ∀ (r : List Nat), r.Pairwise (fun a b => blen a < blen b) → b ∈ r → c ∈ r → b = c := by
            intro r
            induction r with
            | nil => intro _ hx; simp at hx
            | cons d r ih =>
              intro hpw h1 h2
              obtain ⟨p1, p2⟩ := List.pairwise_cons.1 hpw
              rcases List.mem_cons.1 h1 with e5 | h1
              · rcases List.mem_cons.1 h2 with e6 | h2
                · rw [e5, e6]
                · have := p1 c h2; rw [← e5] at this; omega
              · rcases List.mem_cons.1 h2 with e6 | h2
                · have := p1 b h1; rw [← e6] at this; omega
                · exact ih p2 h1 h2
          exact key _ hT.up hb hc2
      · rw [ints_length, List.length_append, List.length_map, List.length_singleton]
        omega
    rw [if_pos hfit]
    congr 1
    have hs := List.pairwise_mergeSort (le := fun x y : Int => !decide (impl_extended.tp (k + 1) y < impl_extended.tp (k + 1) x)) (fun a b c h1 h2 => by simp at h1 h2 ⊢; omega) (fun a b => by simp; omega) (ints (l.map (putOne t) ++ [t]))
    refine List.Perm.eq_of_pairwise (le := fun x y : Int => impl_extended.tp (k + 1) x ≤ impl_extended.tp (k + 1) y) (fun a b ha hb h1 h2 => ?_) (hs.imp fun h => by simpa using h) ?_ ((List.mergeSort_perm _ _).trans (hp.map _))
    · obtain ⟨x, rfl, hx⟩ := hmem a ((List.mergeSort_perm _ _).mem_iff.1 ha)
      have hfa := impl_extended.fit_apart hfit
      have hb2 : b ∈ ints (l.map (putOne t) ++ [t]) := (hp.map _).mem_iff.2 hb
      exact hfa _ ((List.mergeSort_perm _ _).mem_iff.1 ha) b hb2 (Int.le_antisymm h1 h2)
    · unfold ints
      rw [List.pairwise_map]
      refine hT.up.imp_of_mem (fun {a b} ha hb h => ?_)
      rw [(impl_extended.tp_eq k a (hlo a ha)).1, (impl_extended.tp_eq k b (hlo b hb)).1]
      unfold pdeg
      omega

/-! impl_nullityOfMap -/
theorem impl_nullityOfMap.loop (m : List Nat) (hm : ∀ x ∈ m, x < 2 ^ 62) (hl : m.length ≤ 1000) (d : Nat) :
    ∀ (i : Nat) (b : List Nat), m.length - i = d → i ≤ m.length → b = puts [] (m.take i) → Ev (fun k => impl_nullityOfMap.l0 k (ints m) (ints b) (ints m) (m.length : Int) (i : Int)) (nulMap m) := by
  induction d with
  | zero =>
    intro i b hd hi hb
    have hbl := puts_length_le (m.take i) []
    rw [List.take_of_length_le (by omega)] at hb hbl
    refine now fun k => ?_
    simp only [impl_nullityOfMap.l0]
    rw [if_neg (by omega), ints_length, ints_length, hb]
    simp only [List.length_nil] at hbl
    rw [wrap_id (by omega) (by omega)]
    rfl
  | succ d ih =>
    intro i b hd hi hb
    have hlt : i < m.length := by omega
    have hB : Basis b := by rw [hb]; exact puts_basis _ basis_nil
    have hlo : ∀ x ∈ b, x < 2 ^ 62 := by rw [hb]; exact puts_lt _ (fun x hx => by simp at hx) (fun x hx => hm x (List.mem_of_mem_take hx))
    have hbl : b.length ≤ 1000 := by
      have := puts_length_le (m.take i) []
      rw [← hb] at this
      simp at this
      omega
    obtain ⟨K, hK⟩ := ih (i + 1) (put b m[i]) (by omega) (by omega) (by rw [List.take_succ_eq_append_getElem hlt, hb]; unfold puts; rw [List.foldl_append]; rfl)
    refine ⟨K + 2, fun k hk => ?_⟩
    obtain ⟨j, rfl⟩ : ∃ j, k = j + 2 := ⟨k - 2, by omega⟩
    show impl_nullityOfMap.l0 (j + 1 + 1) (ints m) (ints b) (ints m) (m.length : Int) (i : Int) = _
    simp only [impl_nullityOfMap.l0]
    rw [if_pos (by omega), if_pos (by omega), if_pos (by rw [ints_length]; omega), ints_get m i hlt, impl_extended.eq j b m[i] (hm _ (List.getElem_mem hlt)) hlo hB (by omega), Option.bind_some, wrap_succ i (by omega)]
    exact hK (j + 1) (by omega)
theorem impl_nullityOfMap.ev (m : List Nat) (hm : ∀ x ∈ m, x < 2 ^ 62) (hl : m.length ≤ 1000) : Ev (fun k => impl_nullityOfMap.f k (ints m)) (nulMap m) := by
  have h := impl_nullityOfMap.loop m hm hl m.length 0 [] (by omega) (by omega) rfl
  refine Ev.congr (f := fun k => impl_nullityOfMap.l0 k (ints m) (ints []) (ints m) (m.length : Int) ((0 : Nat) : Int)) (fun k => ?_) h
  unfold impl_nullityOfMap.f
  rw [ints_length]
  rfl

/-! impl_sameMap -/
theorem impl_sameMap.loop (n : Nat) (hn : n ≤ 62) (d : Nat) : ∀ (i : Nat) (o : List Int), i + d = n → o.length = i → Ev (fun k => impl_sameMap.l0 k o (n : Int) (i : Int)) (o ++ (List.range' i d).map fun j => ((2 ^ j : Nat) : Int)) := by
  induction d with
  | zero =>
    intro i o h hl
    refine now fun k => ?_
    simp only [impl_sameMap.l0]
    rw [if_neg (by omega)]
    simp
  | succ d ih =>
    intro i o h hl
    have ih' := ih (i + 1) (o ++ [((2 ^ i : Nat) : Int)]) (by omega) (by simp; omega)
    rw [List.append_assoc] at ih'
    rw [List.range'_succ, List.map_cons]
    refine Ev.step (f := fun k => impl_sameMap.l0 k (o ++ [((2 ^ i : Nat) : Int)]) (n : Int) ((i + 1 : Nat) : Int)) (fun k => ?_) ih'
    simp only [impl_sameMap.l0]
    rw [if_pos (by omega), if_pos (by omega), if_pos (by omega), shl_one (by omega) (by omega), Int.toNat_natCast, wrap_succ i (by omega)]
theorem impl_sameMap.ev (n : Nat) (hn : n ≤ 62) : Ev (fun k => impl_sameMap.f k (n : Int)) (oneMap n) := by
  have := impl_sameMap.loop n hn n 0 [] (by omega) rfl
  rw [List.nil_append] at this
  exact this

/-! impl_degree -/
theorem impl_degree.eq (k : Nat) (x : Nat) (hx : x < 2 ^ 63) : impl_degree.f (k + 1) (x : Int) = some (pdeg x) := by
  unfold impl_degree.f
  rw [impl_top.eq k x hx]
  rfl

/-! impl_apply -/
theorem impl_apply.loop (m : List Int) (s : Int) (n : Nat) (hn : n ≤ 62) (hm : ∀ x ∈ m, 0 ≤ x ∧ x < 2 ^ n) (h0 : 0 ≤ s) (h1 : s < 2 ^ 63) (hl : m.length < 4611686018427387904) (d : Nat) :
    ∀ (i : Nat) (o : Int), m.length - i = d → i ≤ m.length → 0 ≤ o → o < 2 ^ n → Ev (fun k => impl_apply.l0 k s o m (m.length : Int) (i : Int)) (applyGo s o i (m.drop i)) := by
  have hp := pow_le63 (n := n) (by omega)
  induction d with
  | zero =>
    intro i o hd hi ho0 ho1
    refine now fun k => ?_
    simp only [impl_apply.l0]
    rw [if_neg (by omega), List.drop_eq_nil_of_le (by omega)]
    rfl
  | succ d ih =>
    intro i o hd hi ho0 ho1
    have hlt : i < m.length := by omega
    have hx := hm m[i] (List.getElem_mem _)
    have hin := impl_has.eq s (i : Int) h0 h1 (by omega)
    rw [drop_cons m i hlt, applyGo]
    cases e : bit s (i : Int)
    · refine Ev.step (f := fun k => impl_apply.l0 k s o m (m.length : Int) ((i + 1 : Nat) : Int)) (fun k => ?_) (by simpa using ih (i + 1) o (by omega) (by omega) ho0 ho1)
      simp only [impl_apply.l0]
      rw [if_pos (by omega), if_pos (by omega), if_pos (by omega), hin, Option.bind_some, e, wrap_succ i (by omega)]
      rfl
    · refine Ev.step (f := fun k => impl_apply.l0 k s ((o.toNat ^^^ m[i].toNat : Nat) : Int) m (m.length : Int) ((i + 1 : Nat) : Int)) (fun k => ?_) (by simpa using ih (i + 1) _ (by omega) (by omega) (by omega) (xor_lt ho1 hx.2 ho0 hx.1))
      simp only [impl_apply.l0]
      rw [if_pos (by omega), if_pos (by omega), if_pos (by omega), hin, Option.bind_some, e, if_pos rfl, rd_get m i hlt, xor_eq ho0 (by omega) hx.1 (by omega), wrap_succ i (by omega)]
theorem impl_apply.ev (m : List Int) (s : Int) (n : Nat) (hn : n ≤ 62) (hm : ∀ x ∈ m, 0 ≤ x ∧ x < 2 ^ n) (h0 : 0 ≤ s) (h1 : s < 2 ^ 63) (hl : m.length < 4611686018427387904) : Ev (fun k => impl_apply.f k m s) (applyMap m s) :=
  impl_apply.loop m s n hn hm h0 h1 hl m.length 0 0 (by omega) (by omega) (by omega) (Int.pow_pos (by decide))

/-! impl_compose -/
theorem impl_compose.loop (a b : List Int) (n : Nat) (hn : n ≤ 16) (ha : ∀ x ∈ a, 0 ≤ x ∧ x < 2 ^ n) (hb : ∀ x ∈ b, 0 ≤ x ∧ x < 2 ^ n) (hla : a.length < 4611686018427387904) (hl : b.length ≤ 1048576) (d : Nat) :
    ∀ (i : Nat) (o : List Int), b.length - i = d → i ≤ b.length → o.length = i → Ev (fun k => impl_compose.l0 k a o b (b.length : Int) (i : Int)) (o ++ (b.drop i).map (applyMap a)) := by
  have h16 := pow16 hn
  induction d with
  | zero =>
    intro i o hd hi ho
    refine now fun k => ?_
    simp only [impl_compose.l0]
    rw [if_neg (by omega), List.drop_eq_nil_of_le (by omega), List.map_nil, List.append_nil]
  | succ d ih =>
    intro i o hd hi ho
    have hlt : i < b.length := by omega
    have hx := hb b[i] (List.getElem_mem _)
    rw [drop_cons b i hlt, List.map_cons]
    refine Ev.step (f := fun k => (impl_apply.f k a b[i]).bind fun t => impl_compose.l0 k a (o ++ [t]) b (b.length : Int) ((i + 1 : Nat) : Int)) (fun k => ?_) (Ev.bind (impl_apply.ev a b[i] n (by omega) ha hx.1 (by omega) hla) (by simpa using ih (i + 1) (o ++ [applyMap a b[i]]) (by omega) (by omega) (by simp [ho])))
    simp only [impl_compose.l0]
    rw [if_pos (by omega), if_pos (by omega), if_pos (by omega), rd_get b i hlt]
    simp only [if_pos (show o.length < 17592186044416 by omega), wrap_succ i (show i < 4611686018427387904 by omega)]
theorem impl_compose.ev (a b : List Int) (n : Nat) (hn : n ≤ 16) (ha : ∀ x ∈ a, 0 ≤ x ∧ x < 2 ^ n) (hb : ∀ x ∈ b, 0 ≤ x ∧ x < 2 ^ n) (hla : a.length < 4611686018427387904) (hl : b.length ≤ 1048576) : Ev (fun k => impl_compose.f k a b) (b.map (applyMap a)) := by
  have := impl_compose.loop a b n hn ha hb hla hl b.length 0 [] (by omega) (by omega) rfl
  rw [List.drop_zero, List.nil_append] at this
  exact this

/-! impl_addMaps -/
theorem impl_addMaps.loop (a b : List Int) (n : Nat) (hn : n ≤ 62) (hab : a.length = b.length) (ha : ∀ x ∈ a, 0 ≤ x ∧ x < 2 ^ n) (hb : ∀ x ∈ b, 0 ≤ x ∧ x < 2 ^ n) (hl : a.length ≤ 1048576) (d : Nat) :
    ∀ (i : Nat) (o : List Int), a.length - i = d → i ≤ a.length → o = addSets (a.take i) (b.take i) → Ev (fun k => impl_addMaps.l0 k b o a (a.length : Int) (i : Int)) (addSets a b) := by
  have hp := pow_le63 (n := n) (by omega)
  induction d with
  | zero =>
    intro i o hd hi ho
    refine now fun k => ?_
    simp only [impl_addMaps.l0]
    rw [if_neg (by omega), ho, List.take_of_length_le (by omega), List.take_of_length_le (by omega)]
  | succ d ih =>
    intro i o hd hi ho
    have hlt : i < a.length := by omega
    have hltb : i < b.length := by omega
    have hx := ha a[i] (List.getElem_mem _)
    have hy := hb b[i] (List.getElem_mem _)
    have hol : o.length ≤ i := by rw [ho]; simp [addSets]; omega
    refine Ev.step (f := fun k => impl_addMaps.l0 k b (o ++ [((a[i].toNat ^^^ b[i].toNat : Nat) : Int)]) a (a.length : Int) ((i + 1 : Nat) : Int)) (fun k => ?_) (ih (i + 1) _ (by omega) (by omega) ?_)
    · simp only [impl_addMaps.l0]
      rw [if_pos (by omega), if_pos (by omega), if_pos (by omega), if_pos (by omega), if_pos (by omega), rd_get a i hlt, rd_get b i hltb, xor_eq hx.1 (by omega) hy.1 (by omega), wrap_succ i (by omega)]
    · rw [ho]
      exact addSets_snoc a b i hlt hltb
theorem impl_addMaps.ev (a b : List Int) (n : Nat) (hn : n ≤ 62) (hab : a.length = b.length) (ha : ∀ x ∈ a, 0 ≤ x ∧ x < 2 ^ n) (hb : ∀ x ∈ b, 0 ≤ x ∧ x < 2 ^ n) (hl : a.length ≤ 1048576) : Ev (fun k => impl_addMaps.f k a b) (addSets a b) :=
  impl_addMaps.loop a b n hn hab ha hb hl a.length 0 [] (by omega) (by omega) (by simp [addSets])

/-! impl_mapOfPoly -/
theorem impl_mapOfPoly.loop (m : List Int) (hn : m.length ≤ 16) (hm : ∀ x ∈ m, 0 ≤ x ∧ x < 2 ^ m.length) (p : Nat) (hp : p < 2 ^ 62) (k : Nat) : ∀ (o : List Int), k ≤ 62 → o.length = m.length → (∀ x ∈ o, 0 ≤ x ∧ x < 2 ^ m.length) → Ev (fun n => impl_mapOfPoly.l0 n m (p : Int) o (oneMap m.length) ((k : Int) - 1)) (polyGo m p k o) := by
  induction k with
  | zero =>
    intro o hk hl ho
    refine now fun n => ?_
    simp only [impl_mapOfPoly.l0]
    rw [if_neg (by omega)]
    rfl
  | succ k ih =>
    intro o hk hl ho
    have hh := impl_has.eq (p : Int) (k : Int) (by omega) (by omega) (by omega)
    rw [show bit (p : Int) (k : Int) = p.testBit k from rfl] at hh
    have hb := step_bounds m hm o (p.testBit k) hl
    have ih' := ih _ (by omega) hb.2.2 hb.2.1
    obtain ⟨K1, hK1⟩ := impl_compose.ev m o m.length hn hm ho (by omega) (by omega)
    have hlen : (o.map (applyMap m)).length = m.length := by rw [List.length_map, hl]
    cases e : p.testBit k
    · rw [e, if_neg (by decide)] at ih'
      obtain ⟨K2, hK2⟩ := ih'
      refine ⟨K1 + K2 + 1, fun n hnn => ?_⟩
      obtain ⟨j, rfl⟩ : ∃ j, n = j + 1 := ⟨n - 1, by omega⟩
      have c1 : impl_compose.f j m o = _ := hK1 j (by omega)
      have c3 := hK2 j (by omega)
      simp only [impl_mapOfPoly.l0, polyGo]
      rw [if_pos (by omega), show ((k + 1 : Nat) : Int) - 1 = (k : Int) by omega, c1, Option.bind_some, hh, Option.bind_some, e, if_neg (by decide), if_neg (by decide), wrap_id (by omega) (by omega)]
      exact c3
    · rw [e, if_pos rfl] at ih'
      obtain ⟨K2, hK2⟩ := ih'
      obtain ⟨K3, hK3⟩ := impl_addMaps.ev (o.map (applyMap m)) (oneMap m.length) m.length (by omega) (by rw [hlen, oneMap_length]) hb.1 (oneMap_bounds m.length) (by omega)
      refine ⟨K1 + K2 + K3 + 1, fun n hnn => ?_⟩
      obtain ⟨j, rfl⟩ : ∃ j, n = j + 1 := ⟨n - 1, by omega⟩
      have c1 : impl_compose.f j m o = _ := hK1 j (by omega)
      have c3 := hK2 j (by omega)
      have c4 : impl_addMaps.f j (o.map (applyMap m)) (oneMap m.length) = _ := hK3 j (by omega)
      simp only [impl_mapOfPoly.l0, polyGo]
      rw [if_pos (by omega), show ((k + 1 : Nat) : Int) - 1 = (k : Int) by omega, c1, Option.bind_some, hh, Option.bind_some, e, if_pos rfl, c4, Option.bind_some, wrap_id (by omega) (by omega)]
      rw [if_pos rfl]
      exact c3
theorem impl_mapOfPoly.ev (m : List Int) (hn : m.length ≤ 16) (hm : ∀ x ∈ m, 0 ≤ x ∧ x < 2 ^ m.length) (p : Nat) (hp : p < 2 ^ 62) : Ev (fun n => impl_mapOfPoly.f n m (p : Int)) (polyMap m p) := by
  obtain ⟨K, hK⟩ := ev_and (impl_sameMap.ev m.length (by omega)) (impl_mapOfPoly.loop m hn hm p hp (blen p) (List.replicate m.length 0) (blen_le hp) (by simp) (zeros_bounds _ _))
  refine ⟨K + 1, fun n hnn => ?_⟩
  obtain ⟨j, rfl⟩ : ∃ j, n = j + 1 := ⟨n - 1, by omega⟩
  obtain ⟨c1, c2⟩ := hK (j + 1) (by omega)
  show impl_mapOfPoly.f (j + 1) m (p : Int) = _
  unfold impl_mapOfPoly.f
  rw [if_pos (by omega), if_pos (by omega), c1, Option.bind_some, impl_degree.eq j p (by omega), Option.bind_some, Int.toNat_natCast]
  exact c2

/-! impl_Graph_toggles -/
theorem impl_Graph_toggles.eq (l : List Int) (own : Bool) (hG : GoodG l) (i : Nat) (hi : i < l.length) : impl_Graph_toggles.f l own (i : Int) = some (togg l own i) := by
  have h16 := hG.top
  have hx := hG.sets (rd l (i : Int)) (rd_mem l _ (by omega) (by omega))
  have hp := pow16 hG.top
  unfold impl_Graph_toggles.f togg
  cases own
  · rw [if_neg (by decide), if_pos (by omega), if_pos (by omega), if_neg (by decide)]
  · have h2 : (2 : Nat) ^ i < 2 ^ 63 := Nat.pow_lt_pow_right (by decide) (by omega)
    rw [if_pos rfl, if_pos (by omega), if_pos (by omega), if_pos rfl, shl_one (by omega) (by omega), Int.toNat_natCast, or_eq hx.1 (by omega) (Int.natCast_nonneg _) (by exact_mod_cast h2)]
    rfl

/-! impl_Graph_toggleMap -/
theorem impl_Graph_toggleMap.loop (l : List Int) (own : Bool) (hG : GoodG l) (d : Nat) :
    ∀ (i : Nat) (o : List Int), l.length - i = d → i ≤ l.length → o.length = i → Ev (fun k => impl_Graph_toggleMap.l0 k o (l.length : Int) (i : Int) l own) (o ++ (List.range' i d).map (togg l own)) := by
  have h16 := hG.top
  induction d with
  | zero =>
    intro i o hd hi ho
    refine now fun k => ?_
    simp only [impl_Graph_toggleMap.l0]
    rw [if_neg (by omega)]
    simp
  | succ d ih =>
    intro i o hd hi ho
    have hlt : i < l.length := by omega
    refine Ev.step (f := fun k => impl_Graph_toggleMap.l0 k (o ++ [togg l own i]) (l.length : Int) ((i + 1 : Nat) : Int) l own) (fun k => ?_) (by rw [List.range'_succ, List.map_cons]; simpa using ih (i + 1) (o ++ [togg l own i]) (by omega) (by omega) (by simp [ho]))
    simp only [impl_Graph_toggleMap.l0]
    rw [if_pos (by omega), impl_Graph_toggles.eq l own hG i hlt, Option.bind_some, if_pos (by omega), wrap_succ i (by omega)]
theorem impl_Graph_toggleMap.ev (l : List Int) (own : Bool) (hG : GoodG l) : Ev (fun k => impl_Graph_toggleMap.f k l own) (toggles l own) :=
  impl_Graph_toggleMap.loop l own hG l.length 0 [] (by omega) (by omega) rfl

/-! impl_fibonacci -/
theorem impl_fibonacci.loop (n : Nat) (hn : n ≤ 60) : ∀ (d i : Nat), i + d = n → Ev (fun k => impl_fibonacci.l0 k ((fibp i : Nat) : Int) ((fibp (i + 1) : Nat) : Int) (n : Int) (i : Int)) ((fibp n : Nat) : Int)
  | 0, i, h => by
    refine now fun k => ?_
    simp only [impl_fibonacci.l0]
    rw [if_neg (by omega), show i = n by omega]
  | d + 1, i, h => by
    have ih := impl_fibonacci.loop n hn d (i + 1) (by omega)
    have p1 : (2 : Nat) ^ (i + 1) ≤ 2 ^ 61 := Nat.pow_le_pow_right (by decide) (by omega)
    have p0 : (2 : Nat) ^ i ≤ 2 ^ 61 := Nat.pow_le_pow_right (by decide) (by omega)
    rw [show (2 : Nat) ^ 61 = 2305843009213693952 from rfl] at p0 p1
    have f0 := fibp_lt i
    have f1 := fibp_lt (i + 1)
    refine Ev.step (f := fun k => impl_fibonacci.l0 k ((fibp (i + 1) : Nat) : Int) ((fibp (i + 1 + 1) : Nat) : Int) (n : Int) ((i + 1 : Nat) : Int)) (fun k => ?_) ih
    simp only [impl_fibonacci.l0]
    rw [if_pos (by omega), wrap_succ i (by omega), wrap_id (by omega) (by omega), show ((fibp (i + 1) : Nat) : Int) * 2 = ((fibp (i + 1) * 2 : Nat) : Int) by omega, xor_nat _ _ (by omega) (by omega)]
    rfl
theorem impl_fibonacci.ev (n : Nat) (h : n ≤ 50) : Ev (fun k => impl_fibonacci.f k (n : Int)) ((fibp n : Nat) : Int) := impl_fibonacci.loop n (by omega) n 0 (by omega)

/-! impl_PathProduct -/
theorem impl_side1 (a : Int) : impl_isSide.f a 1 = some (decide (1 ≤ a) && decide (a ≤ 40)) := by
  unfold impl_isSide.f
  rw [impl_in.eq]
  rfl
theorem impl_PathProduct.ev (l : List Int) (own : Bool) (a : Int) : Ev (fun k => impl_PathProduct.f k l own a) (pathProd l own a) := by
  obtain ⟨K1, hK1⟩ := impl_isGraph.ev l own
  unfold pathProd
  cases e1 : good l
  · rw [Bool.false_and, if_neg (by decide)]
    refine ⟨K1 + 1, fun k hk => ?_⟩
    obtain ⟨j, rfl⟩ : ∃ j, k = j + 1 := ⟨k - 1, by omega⟩
    have c1 : impl_isGraph.f (j + 1) l own = _ := hK1 (j + 1) (by omega)
    show impl_PathProduct.f (j + 1) l own a = _
    unfold impl_PathProduct.f
    rw [c1, Option.bind_some, e1, if_neg (by decide)]
    simp [impl_PathProduct.j0]
  · rw [Bool.true_and]
    cases e2 : (decide (1 ≤ a) && decide (a ≤ 40))
    · rw [if_neg (by decide)]
      refine ⟨K1 + 1, fun k hk => ?_⟩
      obtain ⟨j, rfl⟩ : ∃ j, k = j + 1 := ⟨k - 1, by omega⟩
      have c1 : impl_isGraph.f (j + 1) l own = _ := hK1 (j + 1) (by omega)
      show impl_PathProduct.f (j + 1) l own a = _
      unfold impl_PathProduct.f
      rw [c1, Option.bind_some, e1, if_pos rfl, impl_side1, e2, Option.bind_some]
      simp [impl_PathProduct.j0]
    · rw [if_pos rfl]
      have h2 : 1 ≤ a ∧ a ≤ 40 := by simpa using e2
      obtain ⟨m, rfl⟩ := Int.eq_ofNat_of_zero_le (show 0 ≤ a by omega)
      have hG := (good_iff l).1 e1
      have h16 := hG.top
      have htb := toggles_bounds l own hG
      have htl := toggles_length l own
      have hb : ∀ x ∈ toggles l own, 0 ≤ x ∧ x < 2 ^ (toggles l own).length := by rw [htl]; exact htb
      have hf := fibp_lt41 (n := m) (by omega)
      have hpb := polyMap_bounds (toggles l own) hb (fibp (m + 1))
      have hpl := polyMap_length (toggles l own) hb (fibp (m + 1))
      obtain ⟨r, hr, hrb⟩ := ints_of _ hpb
      have hrl : r.length = l.length := by rw [← ints_length, ← hr, hpl, htl]
      have hp : (2 : Nat) ^ (toggles l own).length ≤ 2 ^ 16 := Nat.pow_le_pow_right (by decide) (by rw [htl]; exact h16)
      obtain ⟨K2, hK2⟩ := ev_and (impl_Graph_toggleMap.ev l own hG) (impl_fibonacci.ev (m + 1) (by omega))
      obtain ⟨K3, hK3⟩ := ev_and (impl_mapOfPoly.ev (toggles l own) (by rw [htl]; exact h16) hb (fibp (m + 1)) (by omega)) (impl_nullityOfMap.ev r (fun x hx => by have := hrb x hx; omega) (by omega))
      refine ⟨K1 + K2 + K3 + 1, fun k hk => ?_⟩
      obtain ⟨j, rfl⟩ : ∃ j, k = j + 1 := ⟨k - 1, by omega⟩
      have c1 : impl_isGraph.f (j + 1) l own = _ := hK1 (j + 1) (by omega)
      obtain ⟨c2, c3⟩ := hK2 j (by omega)
      obtain ⟨c4, c5⟩ := hK3 j (by omega)
      show impl_PathProduct.f (j + 1) l own (m : Int) = _
      unfold impl_PathProduct.f
      rw [c1, Option.bind_some, e1, if_pos rfl, impl_side1, e2, Option.bind_some]
      simp only [impl_PathProduct.j0, Bool.not_true, Bool.false_eq_true, if_false]
      rw [c2, Option.bind_some, wrap_succ m (by omega), c3, Option.bind_some, c4, Option.bind_some, hr, c5, Option.bind_some, Int.toNat_natCast, hr, ints_toNat]
end Go.Proofs.Ytokgnjbnckmndaa.Pure
