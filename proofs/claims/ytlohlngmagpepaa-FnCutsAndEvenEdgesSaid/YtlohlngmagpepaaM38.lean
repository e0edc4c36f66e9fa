/- Plain laws on the parts of a graph: closed sets, the least one with a button. No program in sight. -/
import Derived.Test.YtlohlngmagpepaaM3
import Derived.Test.YtlohlngmagpepaaM6
namespace Go.Proofs.YtlohlngmagpepaaM
open Go.RowKit Go.Proofs.YtlohlngmagpepaaW.PrintWords Go.Proofs.YtlohlngmagpepaaW.PrintLast Go.Proofs.YtlohlngmagpepaaW.PrintMore
set_option linter.unusedVariables false
set_option linter.unusedSimpArgs false
def ClosedS (N : Nat → Nat) (n x : Nat) : Prop := ∀ j, j < n → x.testBit j = true → ∀ k, (N j).testBit k = true → x.testBit k = true
def Sub (x y : Nat) : Prop := ∀ k, x.testBit k = true → y.testBit k = true
theorem Sub.eq {x y : Nat} (h : Sub x y) (h2 : Sub y x) : x = y := Nat.eq_of_testBit_eq fun k => by
  cases hx : x.testBit k
  · cases hy : y.testBit k
    · rfl
    · rw [h2 k hy] at hx; cases hx
  · rw [h k hx]
theorem Sub.trans {x y z : Nat} (h : Sub x y) (h2 : Sub y z) : Sub x z := fun k hk => h2 k (h k hk)
theorem sub_refl (x : Nat) : Sub x x := fun _ h => h
theorem sub_or_left (x y : Nat) : Sub x (x ||| y) := fun k h => by rw [Nat.testBit_or, h]; rfl
theorem sub_or_right (x y : Nat) : Sub y (x ||| y) := fun k h => by rw [Nat.testBit_or, h, Bool.or_true]
theorem or_sub {x y z : Nat} (h : Sub x z) (h2 : Sub y z) : Sub (x ||| y) z := fun k hk => by
  rw [Nat.testBit_or, Bool.or_eq_true] at hk
  exact hk.elim (h k) (h2 k)
structure IsCl (N : Nat → Nat) (n i x : Nat) : Prop where
  own : x.testBit i = true
  shut : ClosedS N n x
  least : ∀ y, y.testBit i = true → ClosedS N n y → Sub x y
theorem IsCl.eq {N : Nat → Nat} {n i x y : Nat} (h : IsCl N n i x) (h2 : IsCl N n i y) : x = y := (h.least y h2.own h2.shut).eq (h2.least x h.own h.shut)
def orUp (N : Nat → Nat) (x acc : Nat) : Nat → Nat
  | 0 => acc
  | t + 1 => if x.testBit t = true then orUp N x acc t ||| N t else orUp N x acc t
def inUp (N : Nat → Nat) (acc : Nat) : Nat → Nat
  | 0 => acc
  | t + 1 => if (inUp N acc t).testBit t = true then inUp N acc t ||| N t else inUp N acc t
theorem orUp_sub (N : Nat → Nat) (x acc : Nat) : ∀ t, Sub acc (orUp N x acc t)
  | 0 => sub_refl _
  | t + 1 => by
    rw [orUp]
    split
    · exact (orUp_sub N x acc t).trans (sub_or_left _ _)
    · exact orUp_sub N x acc t
theorem inUp_sub (N : Nat → Nat) (acc : Nat) : ∀ t, Sub acc (inUp N acc t)
  | 0 => sub_refl _
  | t + 1 => by
    rw [inUp]
    split
    · exact (inUp_sub N acc t).trans (sub_or_left _ _)
    · exact inUp_sub N acc t
theorem orUp_has (N : Nat → Nat) (x acc : Nat) : ∀ t j, j < t → x.testBit j = true → Sub (N j) (orUp N x acc t)
  | 0, j, h, _ => by omega
  | t + 1, j, h, hx => by
    rw [orUp]
    by_cases e : j = t
    · subst e
      rw [if_pos hx]
      exact sub_or_right _ _
    · have ih := orUp_has N x acc t j (by omega) hx
      split
      · exact ih.trans (sub_or_left _ _)
      · exact ih
theorem inUp_has (N : Nat → Nat) (acc : Nat) : ∀ t j, j < t → acc.testBit j = true → Sub (N j) (inUp N acc t)
  | 0, j, h, _ => by omega
  | t + 1, j, h, hx => by
    rw [inUp]
    by_cases e : j = t
    · subst e
      rw [if_pos (inUp_sub N acc j j hx)]
      exact sub_or_right _ _
    · have ih := inUp_has N acc t j (by omega) hx
      split
      · exact ih.trans (sub_or_left _ _)
      · exact ih
theorem orUp_in {N : Nat → Nat} {n x acc y : Nat} (hy : ClosedS N n y) (hx : Sub x y) (ha : Sub acc y) : ∀ t, t ≤ n → Sub (orUp N x acc t) y
  | 0, _ => ha
  | t + 1, h => by
    rw [orUp]
    have ih := orUp_in hy hx ha t (by omega)
    split
    · next hb => exact or_sub ih (hy t (by omega) (hx t hb))
    · exact ih
theorem inUp_in {N : Nat → Nat} {n acc y : Nat} (hy : ClosedS N n y) (ha : Sub acc y) : ∀ t, t ≤ n → Sub (inUp N acc t) y
  | 0, _ => ha
  | t + 1, h => by
    rw [inUp]
    have ih := inUp_in hy ha t (by omega)
    split
    · next hb => exact or_sub ih (hy t (by omega) (ih t hb))
    · exact ih
theorem orUp_lt {N : Nat → Nat} {n x acc : Nat} (hN : ∀ j, j < n → N j < 2 ^ n) (ha : acc < 2 ^ n) : ∀ t, t ≤ n → orUp N x acc t < 2 ^ n
  | 0, _ => ha
  | t + 1, h => by
    rw [orUp]
    have ih := orUp_lt hN ha (x := x) t (by omega)
    split
    · exact Nat.or_lt_two_pow ih (hN t (by omega))
    · exact ih
theorem inUp_lt {N : Nat → Nat} {n acc : Nat} (hN : ∀ j, j < n → N j < 2 ^ n) (ha : acc < 2 ^ n) : ∀ t, t ≤ n → inUp N acc t < 2 ^ n
  | 0, _ => ha
  | t + 1, h => by
    rw [inUp]
    have ih := inUp_lt hN ha t (by omega)
    split
    · exact Nat.or_lt_two_pow ih (hN t (by omega))
    · exact ih
theorem orUp_shut {N : Nat → Nat} {n x : Nat} (h : orUp N x x n = x) : ClosedS N n x := fun j hj hx k hk => by
  have := orUp_has N x x n j hj hx k hk
  rwa [h] at this
theorem inUp_shut {N : Nat → Nat} {n x : Nat} (h : inUp N x n = x) : ClosedS N n x := fun j hj hx k hk => by
  have := inUp_has N x n j hj hx k hk
  rwa [h] at this
theorem inUp_shut_eq {N : Nat → Nat} {n x : Nat} (h : ClosedS N n x) : inUp N x n = x := (inUp_in h (sub_refl x) n (Nat.le_refl n)).eq (inUp_sub N x n)
def growN (N : Nat → Nat) (n x : Nat) : Nat → Nat
  | 0 => x
  | t + 1 => inUp N (growN N n x t) n
theorem sub_cnt_lt : ∀ (k x y : Nat), Sub x y → y < 2 ^ k → x ≠ y → cnt k x < cnt k y
  | 0, x, y, h, hy, hne => by
    have hy0 : y = 0 := by omega
    subst hy0
    have : x = 0 := h.eq (fun j hj => by rw [Nat.zero_testBit] at hj; cases hj)
    exact absurd this hne
  | k + 1, x, y, h, hy, hne => by
    have hs : Sub (x / 2) (y / 2) := fun j hj => by rw [Nat.testBit_div_two] at hj ⊢; exact h _ hj
    have h0 := h 0
    rw [Nat.testBit_zero, Nat.testBit_zero, decide_eq_true_eq, decide_eq_true_eq] at h0
    rw [cnt, cnt]
    by_cases e : x / 2 = y / 2
    · rw [e]
      omega
    · have ih := sub_cnt_lt k (x / 2) (y / 2) hs (by rw [Nat.pow_succ] at hy; omega) e
      omega
theorem grow_lt {N : Nat → Nat} {n x : Nat} (hN : ∀ j, j < n → N j < 2 ^ n) (hx : x < 2 ^ n) : ∀ t, growN N n x t < 2 ^ n
  | 0 => hx
  | t + 1 => inUp_lt hN (grow_lt hN hx t) n (Nat.le_refl n)
theorem grow_sub (N : Nat → Nat) (n x : Nat) : ∀ t, Sub x (growN N n x t)
  | 0 => sub_refl x
  | t + 1 => (grow_sub N n x t).trans (inUp_sub N _ n)
theorem grow_in {N : Nat → Nat} {n x y : Nat} (hy : ClosedS N n y) (h : Sub x y) : ∀ t, Sub (growN N n x t) y
  | 0 => h
  | t + 1 => inUp_in hy (grow_in hy h t) n (Nat.le_refl n)
theorem grow_cnt {N : Nat → Nat} {n x : Nat} (hN : ∀ j, j < n → N j < 2 ^ n) (hx : x < 2 ^ n) (h0 : 0 < cnt n x) : ∀ t, ClosedS N n (growN N n x t) ∨ t < cnt n (growN N n x t)
  | 0 => .inr h0
  | t + 1 => by
    rcases grow_cnt hN hx h0 t with h | h
    · left
      show ClosedS N n (inUp N _ n)
      rw [inUp_shut_eq h]
      exact h
    · by_cases e : growN N n x t = growN N n x (t + 1)
      · left
        rw [← e]
        exact inUp_shut e.symm
      · right
        have := sub_cnt_lt n _ _ (inUp_sub N (growN N n x t) n) (grow_lt hN hx (t + 1)) e
        exact Nat.lt_of_le_of_lt h this
theorem cnt_pos {n x : Nat} (hx : x < 2 ^ n) (h : x ≠ 0) : 0 < cnt n x := by
  have := sub_cnt_lt n 0 x (fun k hk => by rw [Nat.zero_testBit] at hk; cases hk) hx (Ne.symm h)
  omega
theorem pow_ne (i : Nat) : (2 : Nat) ^ i ≠ 0 := Nat.pos_iff_ne_zero.1 (Nat.two_pow_pos i)
theorem pow_sub {i y : Nat} (h : y.testBit i = true) : Sub (2 ^ i) y := fun k hk => by
  rw [Nat.testBit_two_pow, decide_eq_true_eq] at hk
  rw [← hk]
  exact h
def clo (N : Nat → Nat) (n i : Nat) : Nat := growN N n (2 ^ i) n
theorem clo_is {N : Nat → Nat} {n i : Nat} (hN : ∀ j, j < n → N j < 2 ^ n) (hi : i < n) : IsCl N n i (clo N n i) := by
  have hx : (2 : Nat) ^ i < 2 ^ n := Nat.pow_lt_pow_right (by decide) hi
  refine ⟨grow_sub N n _ n i (by rw [Nat.testBit_two_pow]; simp), ?_, fun y hy hc => grow_in hc (pow_sub hy) n⟩
  rcases grow_cnt hN hx (cnt_pos hx (pow_ne i)) n with h | h
  · exact h
  · have := cnt_le n (growN N n (2 ^ i) n)
    omega
theorem clo_lt {N : Nat → Nat} {n i : Nat} (hN : ∀ j, j < n → N j < 2 ^ n) (hi : i < n) : clo N n i < 2 ^ n := grow_lt hN (Nat.pow_lt_pow_right (by decide) hi) n
def partsUp (N : Nat → Nat) (n : Nat) : Nat → List Nat × Nat
  | 0 => ([], 0)
  | t + 1 => if (partsUp N n t).2.testBit t = true then partsUp N n t else ((partsUp N n t).1 ++ [clo N n t], (partsUp N n t).2 ||| clo N n t)
def orAll (l : List Nat) : Nat := l.foldl (· ||| ·) 0
theorem orAll_snoc (l : List Nat) (x : Nat) : orAll (l ++ [x]) = orAll l ||| x := by unfold orAll; rw [List.foldl_append]; rfl
theorem or_shut {N : Nat → Nat} {n x y : Nat} (h : ClosedS N n x) (h2 : ClosedS N n y) : ClosedS N n (x ||| y) := fun j hj hb k hk => by
  rw [Nat.testBit_or, Bool.or_eq_true] at hb ⊢
  exact hb.imp (fun hb => h j hj hb k hk) (fun hb => h2 j hj hb k hk)
theorem rest_shut {N : Nat → Nat} {n x : Nat} (hN : ∀ j, j < n → N j < 2 ^ n) (hs : ∀ i j, i < n → j < n → (N i).testBit j = (N j).testBit i) (h : ClosedS N n x) : ClosedS N n (x ^^^ (2 ^ n - 1)) := fun j hj hb k hk => by
  have hk2 : k < n := Nat.lt_of_not_le fun hle => by
    rw [Nat.testBit_lt_two_pow (Nat.lt_of_lt_of_le (hN j hj) (Nat.pow_le_pow_right (by decide) hle))] at hk
    cases hk
  rw [Nat.testBit_xor, Nat.testBit_two_pow_sub_one, decide_eq_true hj, Bool.xor_true, Bool.not_eq_true'] at hb
  rw [Nat.testBit_xor, Nat.testBit_two_pow_sub_one, decide_eq_true hk2, Bool.xor_true, Bool.not_eq_true']
  cases hx : x.testBit k
  · rfl
  · have := h k hk2 hx j (by rw [hs k j hk2 hj]; exact hk)
    rw [this] at hb
    cases hb
structure PartsInv (N : Nat → Nat) (n t : Nat) (r : List Nat × Nat) : Prop where
  lt : r.2 < 2 ^ n
  shut : ClosedS N n r.2
  has : ∀ j, j < t → r.2.testBit j = true
  all : orAll r.1 = r.2
  len : r.1.length ≤ t
  each : ∀ k (h : k < r.1.length), orAll (r.1.take k) &&& r.1[k] = 0 ∧ r.1[k] ≠ 0 ∧ r.1[k] < 2 ^ n ∧ ClosedS N n r.1[k]
theorem parts_inv {N : Nat → Nat} {n : Nat} (hN : ∀ j, j < n → N j < 2 ^ n) (hs : ∀ i j, i < n → j < n → (N i).testBit j = (N j).testBit i) : ∀ t, t ≤ n → PartsInv N n t (partsUp N n t)
  | 0, _ => by
    refine ⟨Nat.two_pow_pos n, fun j _ h => ?_, fun j h => ?_, rfl, Nat.le_refl _, fun k h => ?_⟩
    · rw [show (partsUp N n 0).2 = 0 from rfl, Nat.zero_testBit] at h
      cases h
    · omega
    · exact absurd h (Nat.not_lt_zero _)
  | t + 1, ht => by
    have ih := parts_inv hN hs t (by omega)
    rw [partsUp]
    split
    · next hb =>
      refine ⟨ih.lt, ih.shut, fun j hj => ?_, ih.all, Nat.le_succ_of_le ih.len, ih.each⟩
      by_cases e : j = t
      · rw [e]; exact hb
      · exact ih.has j (by omega)
    · next hb =>
      have hcl := clo_is hN (show t < n by omega)
      have hlt := clo_lt hN (show t < n by omega)
      have hsub : Sub (clo N n t) ((partsUp N n t).2 ^^^ (2 ^ n - 1)) := hcl.least _ (by
        rw [Nat.testBit_xor, Nat.testBit_two_pow_sub_one, decide_eq_true (show t < n by omega), Bool.xor_true]
        rw [Bool.not_eq_true] at hb
        rw [hb]
        rfl) (rest_shut hN hs ih.shut)
      have hdis : (partsUp N n t).2 &&& clo N n t = 0 := Nat.eq_of_testBit_eq fun k => by
        rw [Nat.testBit_and, Nat.zero_testBit]
        cases hk : (clo N n t).testBit k
        · rw [Bool.and_false]
        · have h1 := hsub k hk
          have hkn : k < n := Nat.lt_of_not_le fun hle => by
            rw [Nat.testBit_lt_two_pow (Nat.lt_of_lt_of_le hlt (Nat.pow_le_pow_right (by decide) hle))] at hk
            cases hk
          rw [Nat.testBit_xor, Nat.testBit_two_pow_sub_one, decide_eq_true hkn, Bool.xor_true, Bool.not_eq_true'] at h1
          rw [h1]
          rfl
      refine ⟨Nat.or_lt_two_pow ih.lt hlt, or_shut ih.shut hcl.shut, fun j hj => ?_, ?_, ?_, fun k hk => ?_⟩
      · rw [Nat.testBit_or, Bool.or_eq_true]
        by_cases e : j = t
        · rw [e]; exact .inr hcl.own
        · exact .inl (ih.has j (by omega))
      · rw [orAll_snoc, ih.all]
      · rw [List.length_append, List.length_singleton]
        exact Nat.succ_le_succ ih.len
      · rw [List.length_append, List.length_singleton] at hk
        by_cases e : k < (partsUp N n t).1.length
        · simp only [List.getElem_append_left e, List.take_append_of_le_length (Nat.le_of_lt e)]
          exact ih.each k e
        · have e2 : k = (partsUp N n t).1.length := by omega
          subst e2
          simp only [List.take_left, List.getElem_concat_length, ih.all]
          refine ⟨hdis, fun h0 => ?_, hlt, hcl.shut⟩
          have := hcl.own
          rw [h0, Nat.zero_testBit] at this
          cases this
theorem parts_all {N : Nat → Nat} {n : Nat} (hN : ∀ j, j < n → N j < 2 ^ n) (hs : ∀ i j, i < n → j < n → (N i).testBit j = (N j).testBit i) : orAll (partsUp N n n).1 = 2 ^ n - 1 := by
  have h := parts_inv hN hs n (Nat.le_refl n)
  rw [h.all]
  refine Nat.eq_of_testBit_eq fun k => ?_
  rw [Nat.testBit_two_pow_sub_one]
  by_cases hk : k < n
  · rw [h.has k hk, decide_eq_true hk]
  · rw [decide_eq_false hk, Nat.testBit_lt_two_pow (Nat.lt_of_lt_of_le h.lt (Nat.pow_le_pow_right (by decide) (by omega)))]
def nbs (l : List Int) (j : Nat) : Nat := (rd l (j : Int)).toNat
theorem nbs_rd {l : List Int} (hG : GoodG l) {j : Nat} (hj : j < l.length) : rd l (j : Int) = ((nbs l j : Nat) : Int) ∧ nbs l j < 2 ^ l.length := by
  have h := hG.sets (rd l (j : Int)) (rd_mem l _ (by omega) (by omega))
  have hc : ((2 ^ l.length : Nat) : Int) = (2 : Int) ^ l.length := by simp
  unfold nbs
  omega
theorem nbs_lt {l : List Int} (hG : GoodG l) : ∀ j, j < l.length → nbs l j < 2 ^ l.length := fun j hj => (nbs_rd hG hj).2
theorem nbs_sym {l : List Int} (hG : GoodG l) : ∀ i j, i < l.length → j < l.length → (nbs l i).testBit j = (nbs l j).testBit i := fun i j hi hj => by
  have h := hG.sym i j hi hj
  unfold bit at h
  unfold nbs rd
  simpa using h
def partsR (l : List Int) : List Int × Bool := if good l = true then (ints (partsUp (nbs l) l.length l.length).1, true) else ([], false)
theorem rowEdges_mem (l : List Int) (i : Nat) : ∀ (d j : Nat) (e : List Int), e ∈ rowEdges l i j d → ∃ y : Nat, j ≤ y ∧ y < j + d ∧ e = [(i : Int), (y : Int)] ∧ bit (rd l (i : Int)) (y : Int) = true
  | 0, j, e, h => by cases h
  | d + 1, j, e, h => by
    rw [rowEdges] at h
    split at h
    · next hb =>
      rcases List.mem_cons.1 h with rfl | h
      · exact ⟨j, Nat.le_refl _, by omega, rfl, hb⟩
      · obtain ⟨y, h1, h2, h3⟩ := rowEdges_mem l i d (j + 1) e h
        exact ⟨y, by omega, by omega, h3⟩
    · obtain ⟨y, h1, h2, h3⟩ := rowEdges_mem l i d (j + 1) e h
      exact ⟨y, by omega, by omega, h3⟩
theorem edgesFrom_mem (l : List Int) : ∀ (d i : Nat) (e : List Int), e ∈ edgesFrom l i d → ∃ x y : Nat, x < i + d ∧ y < i + d ∧ e = [(x : Int), (y : Int)] ∧ bit (rd l (x : Int)) (y : Int) = true
  | 0, i, e, h => by cases h
  | d + 1, i, e, h => by
    rw [edgesFrom] at h
    rcases List.mem_append.1 h with h | h
    · obtain ⟨y, h1, h2, h3⟩ := rowEdges_mem l i d (i + 1) e h
      exact ⟨i, y, by omega, by omega, h3⟩
    · obtain ⟨x, y, h1, h2, h3⟩ := edgesFrom_mem l d (i + 1) e h
      exact ⟨x, y, by omega, by omega, h3⟩
theorem edgesFrom_len (l : List Int) : ∀ (d i : Nat), (edgesFrom l i d).length ≤ d * 20 ∨ 20 < d
  | 0, i => .inl (by rw [edgesFrom]; exact Nat.le_refl _)
  | d + 1, i => by
    by_cases hd : 20 < d + 1
    · exact .inr hd
    · left
      rw [edgesFrom, List.length_append]
      have h1 := rowEdges_length l i d (i + 1)
      rcases edgesFrom_len l d (i + 1) with h2 | h2 <;> omega
theorem edges_len {l : List Int} (hG : GoodG l) : (edgesOf l).length ≤ 320 := by
  have h := hG.top
  unfold edgesOf
  rcases edgesFrom_len l l.length 0 with h2 | h2 <;> omega
theorem cut_none {l : List Int} (hG : GoodG l) {s : Nat} (hc : ClosedS (nbs l) l.length s) (k : Nat) (h : k < (edgesOf l).length) : ∃ x y : Nat, x < l.length ∧ y < l.length ∧ (edgesOf l)[k] = [(x : Int), (y : Int)] ∧ s.testBit x = s.testBit y := by
  obtain ⟨x, y, h1, h2, h3, h4⟩ := edgesFrom_mem l l.length 0 _ (List.getElem_mem h)
  have hx : x < l.length := by omega
  have hy : y < l.length := by omega
  have hb : (nbs l x).testBit y = true := by
    unfold bit at h4
    unfold nbs
    simpa using h4
  refine ⟨x, y, hx, hy, h3, ?_⟩
  cases e1 : s.testBit x
  · cases e2 : s.testBit y
    · rfl
    · have := hc y hy e2 x (by rw [nbs_sym hG y x hy hx]; exact hb)
      rw [e1] at this
      cases this
  · exact (hc x hx e1 y hb).symm
end Go.Proofs.YtlohlngmagpepaaM
