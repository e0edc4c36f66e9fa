/- Plain laws on the solver: what it knows is all there is to know. No program in sight. -/
import Derived.Test.YtlohlngmagpepaaM21
namespace Go.Proofs.YtlohlngmagpepaaM
open Go.RowKit Go.Proofs.YtlohlngmagpepaaW.PrintWords Go.Proofs.YtlohlngmagpepaaW.PrintLast Go.Proofs.YtlohlngmagpepaaW.PrintMore
set_option linter.unusedVariables false
set_option linter.unusedSimpArgs false
def Eff (f : Nat → Nat) (j y : Nat) : Prop := ∃ x, x < 2 ^ j ∧ sumX f x j = y
theorem Eff.zero (f : Nat → Nat) (j : Nat) : Eff f j 0 := ⟨0, Nat.two_pow_pos j, sumX_zero f j⟩
theorem Eff.add {f : Nat → Nat} {j y z : Nat} (hy : Eff f j y) (hz : Eff f j z) : Eff f j (y ^^^ z) := by
  obtain ⟨a, ha, rfl⟩ := hy
  obtain ⟨b, hb, rfl⟩ := hz
  exact ⟨a ^^^ b, Nat.xor_lt_two_pow ha hb, sumX_xor f a b j⟩
theorem low_bit {x j : Nat} (h : x < 2 ^ j) : x.testBit j = false := Nat.testBit_lt_two_pow h
theorem sumX_low {f : Nat → Nat} {x j : Nat} (h : x < 2 ^ j) : sumX f x (j + 1) = sumX f x j := by
  rw [sumX, low_bit h]
  simp
theorem low_of {x j : Nat} (h : x < 2 ^ (j + 1)) (hb : x.testBit j = false) : x < 2 ^ j := low_top h hb
theorem pow_succ_lt {x j : Nat} (h : x < 2 ^ j) : x < 2 ^ (j + 1) := Nat.lt_of_lt_of_le h (Nat.pow_le_pow_right (by decide) (by omega))
theorem sumX_top (f : Nat → Nat) (j : Nat) : sumX f (2 ^ j) (j + 1) = f j := by rw [sumX_pow, if_pos (by omega)]
theorem eff_succ {f : Nat → Nat} {j y : Nat} : Eff f (j + 1) y ↔ (Eff f j y ∨ Eff f j (y ^^^ f j)) := by
  constructor
  · rintro ⟨x, hx, rfl⟩
    cases e : x.testBit j
    · exact .inl ⟨x, low_of hx e, (sumX_low (low_of hx e)).symm⟩
    · have h1 : x ^^^ 2 ^ j < 2 ^ j := low_of (Nat.xor_lt_two_pow hx (Nat.pow_lt_pow_right (by decide) (by omega))) (by simp [Nat.testBit_xor, e])
      refine .inr ⟨x ^^^ 2 ^ j, h1, ?_⟩
      rw [← sumX_low h1, sumX_xor, sumX_top]
  · rintro (⟨x, hx, rfl⟩ | ⟨x, hx, e⟩)
    · exact ⟨x, pow_succ_lt hx, sumX_low hx⟩
    · refine ⟨x ^^^ 2 ^ j, Nat.xor_lt_two_pow (pow_succ_lt hx) (Nat.pow_lt_pow_right (by decide) (by omega)), ?_⟩
      rw [sumX_xor, sumX_top, sumX_low hx, e, Nat.xor_assoc, Nat.xor_self, Nat.xor_zero]
structure Inv (f : Nat → Nat) (j : Nat) (s : Sv) : Prop where
  pc : ∀ p ∈ s.ps, p.1 ≠ 0 ∧ p.2 < 2 ^ j ∧ sumX f p.2 j = p.1
  tp : ∀ y, Eff f j y → y ≠ 0 → ∃ p ∈ s.ps, blen p.1 = blen y
  qb : Basis s.quiet
  qs : ∀ x, Sp s.quiet x ↔ (x < 2 ^ j ∧ sumX f x j = 0)
  ib : Basis s.image
  is : ∀ y, Sp s.image y ↔ Eff f j y
  rq : s.ps.length + s.quiet.length = j
  ri : s.image.length = s.ps.length
theorem inv_new (f : Nat → Nat) : Inv f 0 svNew := by
  refine ⟨fun p h => by simp [svNew] at h, ?_, basis_nil, ?_, basis_nil, ?_, rfl, rfl⟩
  · rintro y ⟨x, hx, rfl⟩ h
    exact absurd rfl h
  · intro x
    rw [show svNew.quiet = [] from rfl, sp_iff basis_nil]
    show x = 0 ↔ x < 2 ^ 0 ∧ sumX f x 0 = 0
    constructor
    · rintro rfl
      exact ⟨by decide, rfl⟩
    · rintro ⟨h, _⟩
      rw [Nat.pow_zero] at h
      omega
  · intro y
    rw [show svNew.image = [] from rfl, sp_iff basis_nil]
    show y = 0 ↔ Eff f 0 y
    constructor
    · rintro rfl
      exact Eff.zero f 0
    · rintro ⟨x, _, rfl⟩
      rfl
theorem findP_none {ps : List (Nat × Nat)} {b : Nat} (h : findP ps b = none) : ∀ p ∈ ps, blen p.1 ≠ b := by
  intro p hp
  have := List.find?_eq_none.1 h p hp
  simpa using this
theorem reachN_sum {f : Nat → Nat} {j : Nat} {ps : List (Nat × Nat)} (h : ∀ p ∈ ps, p.2 < 2 ^ j ∧ sumX f p.2 j = p.1) : ∀ (k x y : Nat), blen x ≤ k → y < 2 ^ j →
    (reachN ps k x y).2 < 2 ^ j ∧ (reachN ps k x y).1 ^^^ sumX f (reachN ps k x y).2 j = x ^^^ sumX f y j ∧ ((reachN ps k x y).1 ≠ 0 → ∀ p ∈ ps, blen p.1 ≠ blen (reachN ps k x y).1)
  | 0, x, y, hx, hy => by
    have : x = 0 := by
      have := lt_of_blen hx
      rw [Nat.pow_zero] at this
      omega
    exact ⟨hy, rfl, fun e => absurd this e⟩
  | k + 1, x, y, hx, hy => by
    unfold reachN
    by_cases e : x = 0
    · rw [if_pos e]
      exact ⟨hy, rfl, fun e2 => absurd e e2⟩
    · rw [if_neg e]
      cases e2 : findP ps (blen x) with
      | none => exact ⟨hy, rfl, fun _ => findP_none e2⟩
      | some p =>
        obtain ⟨hp, hb⟩ := findP_mem e2
        obtain ⟨h1, h2⟩ := h p hp
        have hlt := blen_xor' e hb
        have ih := reachN_sum h k (x ^^^ p.1) (y ^^^ p.2) (by omega) (Nat.xor_lt_two_pow hy h1)
        refine ⟨ih.1, ih.2.1.trans ?_, ih.2.2⟩
        rw [sumX_xor, h2, Nat.xor_comm (sumX f y j), xor4, Nat.xor_comm p.1, ← Nat.xor_assoc, Nat.xor_assoc (x ^^^ p.1), Nat.xor_comm (sumX f y j), ← Nat.xor_assoc, Nat.xor_assoc x, Nat.xor_self, Nat.xor_zero]
theorem reach_sum {f : Nat → Nat} {j : Nat} {s : Sv} (h : Inv f j s) (y : Nat) : (reach s.ps y).2 < 2 ^ j ∧ (reach s.ps y).1 ^^^ sumX f (reach s.ps y).2 j = y ∧ ((reach s.ps y).1 ≠ 0 → ∀ p ∈ s.ps, blen p.1 ≠ blen (reach s.ps y).1) := by
  have := reachN_sum (fun p hp => (h.pc p hp).2) (blen y) y 0 (Nat.le_refl _) (Nat.two_pow_pos j)
  rw [sumX_zero, Nat.xor_zero] at this
  exact this
theorem reach_iff {f : Nat → Nat} {j : Nat} {s : Sv} (h : Inv f j s) (y : Nat) : (reach s.ps y).1 = 0 ↔ Eff f j y := by
  obtain ⟨h1, h2, h3⟩ := reach_sum h y
  constructor
  · intro e
    rw [e, Nat.zero_xor] at h2
    exact ⟨_, h1, h2⟩
  · intro hy
    by_cases e : (reach s.ps y).1 = 0
    · exact e
    · have h4 : Eff f j (reach s.ps y).1 := by
        have h5 := hy.add (⟨_, h1, rfl⟩ : Eff f j (sumX f (reach s.ps y).2 j))
        have h6 : y ^^^ sumX f (reach s.ps y).2 j = (reach s.ps y).1 := by
          conv => lhs; arg 1; rw [← h2]
          rw [Nat.xor_assoc, Nat.xor_self, Nat.xor_zero]
        rwa [h6] at h5
      obtain ⟨p, hp, hb⟩ := h.tp _ h4 e
      exact absurd hb (h3 e p hp)
theorem put_more {l : List Nat} (h : Basis l) {s : Nat} (hs : ¬ Sp l s) : (put l s).length = l.length + 1 := by
  have e : red l s ≠ 0 := fun e => hs ((sp_iff h s).2 e)
  unfold put
  rw [if_neg e, ← (putTop_perm h e (fun b hb => red_clean l s h b hb)).length_eq]
  simp
theorem put_same {l : List Nat} (h : Basis l) {s : Nat} (hs : Sp l s) : put l s = l := by
  unfold put
  rw [if_pos ((sp_iff h s).1 hs)]
theorem blen_max {x y : Nat} (h : blen x ≠ blen y) : blen (x ^^^ y) = max (blen x) (blen y) := by
  have hlt : ∀ x y : Nat, blen x < blen y → blen (x ^^^ y) = blen y := fun x y h => by
    obtain ⟨k, hk⟩ : ∃ k, blen y = k + 1 := ⟨blen y - 1, by omega⟩
    have hy := blen_top hk
    have hx : x < 2 ^ k := lt_of_blen (by omega)
    have h1 : x ^^^ y < 2 ^ (k + 1) := Nat.xor_lt_two_pow (pow_succ_lt hx) (lt_of_blen (by omega))
    rw [hk]
    exact blen_eq_of h1 (by rw [Nat.testBit_xor, low_bit hx, hy]; rfl)
  by_cases e : blen x < blen y
  · rw [hlt x y e]
    omega
  · rw [Nat.xor_comm, hlt y x (by omega)]
    omega
theorem inv_add {f : Nat → Nat} {j : Nat} {s : Sv} (h : Inv f j s) : Inv f (j + 1) (svAdd s j (f j)) := by
  obtain ⟨h1, h2, h3⟩ := reach_sum h (f j)
  have hz := reach_iff h (f j)
  have hpc : ∀ p ∈ s.ps, p.1 ≠ 0 ∧ p.2 < 2 ^ (j + 1) ∧ sumX f p.2 (j + 1) = p.1 := fun p hp => by
    obtain ⟨g1, g2, g3⟩ := h.pc p hp
    exact ⟨g1, pow_succ_lt g2, by rw [sumX_low g2, g3]⟩
  have hpow : 2 ^ j < 2 ^ (j + 1) := Nat.pow_lt_pow_right (by decide) (by omega)
  have his : ∀ y, Sp (put s.image (f j)) y ↔ Eff f (j + 1) y := fun y => by rw [put_sp h.ib, h.is, h.is, eff_succ]
  unfold svAdd
  generalize hr : (reach s.ps (f j)).1 = a at *
  generalize hp : (reach s.ps (f j)).2 = q at *
  have hq : (q ^^^ 2 ^ j).testBit j = true := by rw [Nat.testBit_xor, low_bit h1]; simp
  have hqs : sumX f (q ^^^ 2 ^ j) (j + 1) = a := by
    rw [sumX_xor, sumX_top, sumX_low h1]
    have : f j ^^^ sumX f q j = a := by rw [← h2, Nat.xor_assoc, Nat.xor_self, Nat.xor_zero]
    rw [Nat.xor_comm, this]
  have hql : q ^^^ 2 ^ j < 2 ^ (j + 1) := Nat.xor_lt_two_pow (pow_succ_lt h1) hpow
  by_cases e : a = 0
  · rw [if_pos e]
    have he := hz.1 e
    have hns : ¬ Sp s.quiet (q ^^^ 2 ^ j) := fun hs => by
      have := low_bit ((h.qs _).1 hs).1
      rw [hq] at this
      cases this
    refine ⟨hpc, ?_, put_basis h.qb _, ?_, put_basis h.ib _, his, ?_, ?_⟩
    · intro y hy hy0
      rcases eff_succ.1 hy with hy | hy
      · exact h.tp y hy hy0
      · have := hy.add he
        rw [Nat.xor_assoc, Nat.xor_self, Nat.xor_zero] at this
        exact h.tp y this hy0
    · intro x
      rw [put_sp h.qb, h.qs, h.qs]
      constructor
      · rintro (⟨g1, g2⟩ | ⟨g1, g2⟩)
        · exact ⟨pow_succ_lt g1, by rw [sumX_low g1, g2]⟩
        · have e1 : x = (x ^^^ (q ^^^ 2 ^ j)) ^^^ (q ^^^ 2 ^ j) := by rw [Nat.xor_assoc, Nat.xor_self, Nat.xor_zero]
          rw [e1]
          refine ⟨Nat.xor_lt_two_pow (pow_succ_lt g1) hql, ?_⟩
          rw [sumX_xor, sumX_low g1, g2, hqs, e]
          rfl
      · rintro ⟨g1, g2⟩
        cases eb : x.testBit j
        · have g3 := low_of g1 eb
          exact .inl ⟨g3, by rw [← sumX_low g3, g2]⟩
        · have g3 : x ^^^ (q ^^^ 2 ^ j) < 2 ^ j := low_of (Nat.xor_lt_two_pow g1 hql) (by rw [Nat.testBit_xor, eb, hq]; rfl)
          exact .inr ⟨g3, by rw [← sumX_low g3, sumX_xor, g2, hqs, e]; rfl⟩
    · simp only
      rw [put_more h.qb hns]
      have := h.rq
      omega
    · simp only
      rw [put_same h.ib ((h.is _).2 he)]
      exact h.ri
  · rw [if_neg e]
    have he : ¬ Eff f j (f j) := fun g => e (hz.2 g)
    refine ⟨?_, ?_, h.qb, ?_, put_basis h.ib _, his, ?_, ?_⟩
    · intro p hp
      rcases List.mem_append.1 hp with hp | hp
      · exact hpc p hp
      · rw [List.mem_singleton.1 hp]
        exact ⟨e, hql, hqs⟩
    · intro y hy hy0
      have hold : ∀ y, Eff f j y → y ≠ 0 → ∃ p ∈ s.ps ++ [(a, q ^^^ 2 ^ j)], blen p.1 = blen y := fun y hy hy0 => by
        obtain ⟨p, hp, hb⟩ := h.tp y hy hy0
        exact ⟨p, List.mem_append_left _ hp, hb⟩
      rcases eff_succ.1 hy with hy | hy
      · exact hold y hy hy0
      · have hu : Eff f j (y ^^^ a) := by
          have := hy.add (⟨q, h1, rfl⟩ : Eff f j (sumX f q j))
          rwa [Nat.xor_assoc, ← h2, Nat.xor_assoc, Nat.xor_self, Nat.xor_zero] at this
        by_cases hu0 : y ^^^ a = 0
        · rw [xor_zero_iff] at hu0
          exact ⟨_, List.mem_append_right _ (List.mem_singleton.2 rfl), by rw [hu0]⟩
        · obtain ⟨p, hp, hb⟩ := h.tp _ hu hu0
          have hne : blen (y ^^^ a) ≠ blen a := by
            rw [← hb]
            exact h3 e p hp
          have e1 : y = (y ^^^ a) ^^^ a := by rw [Nat.xor_assoc, Nat.xor_self, Nat.xor_zero]
          have hm := blen_max hne
          rw [← e1] at hm
          by_cases hlt : blen a < blen (y ^^^ a)
          · exact ⟨p, List.mem_append_left _ hp, by omega⟩
          · exact ⟨_, List.mem_append_right _ (List.mem_singleton.2 rfl), by simp only; omega⟩
    · intro x
      rw [h.qs]
      constructor
      · rintro ⟨g1, g2⟩
        exact ⟨pow_succ_lt g1, by rw [sumX_low g1, g2]⟩
      · rintro ⟨g1, g2⟩
        cases eb : x.testBit j
        · have g3 := low_of g1 eb
          exact ⟨g3, by rw [← sumX_low g3, g2]⟩
        · exfalso
          have g3 : x ^^^ 2 ^ j < 2 ^ j := low_of (Nat.xor_lt_two_pow g1 hpow) (by simp [Nat.testBit_xor, eb])
          refine he ⟨x ^^^ 2 ^ j, g3, ?_⟩
          rw [← sumX_low g3, sumX_xor, g2, sumX_top, Nat.zero_xor]
    · simp only [List.length_append, List.length_singleton]
      have := h.rq
      omega
    · simp only [List.length_append, List.length_singleton]
      rw [put_more h.ib (fun g => he ((h.is _).1 g)), h.ri]
theorem inv_go {f : Nat → Nat} : ∀ (l : List Nat) (j : Nat) (s : Sv), Inv f j s → (∀ i (h : i < l.length), l[i] = f (j + i)) → Inv f (j + l.length) (svGo l j s)
  | [], j, s, h, _ => h
  | e :: r, j, s, h, hf => by
    have e0 : e = f j := hf 0 (by simp)
    rw [svGo, e0, List.length_cons, show j + (r.length + 1) = j + 1 + r.length by omega]
    refine inv_go r (j + 1) _ (inv_add h) fun i hi => ?_
    have := hf (i + 1) (by simp; omega)
    rw [List.getElem_cons_succ] at this
    rw [this]
    congr 1
    omega
theorem inv_of {f : Nat → Nat} {l : List Nat} (hf : ∀ i (h : i < l.length), l[i] = f i) : Inv f l.length (svOf l) := by
  have := inv_go l 0 svNew (inv_new f) (fun i h => by rw [Nat.zero_add]; exact hf i h)
  rwa [Nat.zero_add] at this
end Go.Proofs.YtlohlngmagpepaaM
