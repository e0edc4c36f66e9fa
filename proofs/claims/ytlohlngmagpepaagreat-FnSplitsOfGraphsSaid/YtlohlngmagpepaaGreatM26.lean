/- Plain laws on the reference's solver: effects above, presses below, in one number. No program in sight. -/
import Derived.Test.YtlohlngmagpepaaGreatM23
namespace Go.Proofs.YtlohlngmagpepaaGreatM
open Go.RowKit Go.Proofs.YtlohlngmagpepaaGreatW.PrintWords Go.Proofs.YtlohlngmagpepaaGreatW.PrintLast Go.Proofs.YtlohlngmagpepaaGreatW.PrintMore
set_option linter.unusedVariables false
set_option linter.unusedSimpArgs false
/-- Presses, and above them what they do. -/
def pk (f : Nat → Nat) (n x : Nat) : Nat := x ^^^ (sumX f x n) <<< n
theorem pk_xor (f : Nat → Nat) (n x y : Nat) : pk f n (x ^^^ y) = pk f n x ^^^ pk f n y := by
  unfold pk
  rw [sumX_xor, Nat.shiftLeft_xor_distrib, xor4]
theorem pk_shr {f : Nat → Nat} {n x : Nat} (hx : x < 2 ^ n) : pk f n x >>> n = sumX f x n := by
  unfold pk
  rw [Nat.shiftRight_xor_distrib, Nat.shiftLeft_shiftRight, Nat.shiftRight_eq_div_pow, Nat.div_eq_of_lt hx, Nat.zero_xor]
theorem pk_low {f : Nat → Nat} {n x : Nat} (h : sumX f x n = 0) : pk f n x = x := by
  unfold pk
  rw [h, Nat.zero_shiftLeft, Nat.xor_zero]
theorem blen_shl {e : Nat} (he : e ≠ 0) (n : Nat) : blen (e <<< n) = blen e + n := by
  have h := blen_shift n (e <<< n) (by rw [← Nat.shiftRight_eq_div_pow, Nat.shiftLeft_shiftRight]; exact he)
  rw [← Nat.shiftRight_eq_div_pow, Nat.shiftLeft_shiftRight] at h
  exact h
theorem up_blen {e x n : Nat} (hx : x < 2 ^ n) (he : e ≠ 0) : blen (x ^^^ e <<< n) = blen e + n := by
  have h1 := blen_le hx
  have h2 := blen_shl he n
  have h3 := blen_ne he
  have := blen_max (x := x) (y := e <<< n) (by omega)
  omega
theorem pk_blen {f : Nat → Nat} {n x : Nat} (hx : x < 2 ^ n) (h : sumX f x n ≠ 0) : blen (pk f n x) = blen (sumX f x n) + n := up_blen hx h
/-- One button more. -/
def soStep (n : Nat) (st : List Nat × List Nat) (s : Nat) : List Nat × List Nat := if red st.1 s >>> n = 0 then (st.1, put st.2 (red st.1 s)) else (put st.1 (red st.1 s), st.2)
def soGo (n : Nat) : List Nat → List Nat × List Nat → List Nat × List Nat
  | [], st => st
  | s :: r, st => soGo n r (soStep n st s)
structure PInv (f : Nat → Nat) (n j : Nat) (p q : List Nat) : Prop where
  pb : Basis p
  pp : ∀ z, Sp p z → ∃ x, x < 2 ^ j ∧ z = pk f n x
  pe : ∀ x, x < 2 ^ j → sumX f x n ≠ 0 → ∃ b ∈ p, blen b = blen (pk f n x)
  qb : Basis q
  qs : ∀ x, Sp q x ↔ (x < 2 ^ j ∧ sumX f x n = 0)
theorem pinv_new (f : Nat → Nat) (n : Nat) : PInv f n 0 [] [] := by
  refine ⟨basis_nil, ?_, ?_, basis_nil, ?_⟩
  · intro z hz
    have := (sp_iff basis_nil z).1 hz
    refine ⟨0, by decide, ?_⟩
    rw [pk_low (sumX_zero f n)]
    exact this
  · intro x hx h
    rw [Nat.pow_zero] at hx
    rw [show x = 0 by omega, sumX_zero] at h
    exact absurd rfl h
  · intro x
    rw [sp_iff basis_nil]
    show x = 0 ↔ _
    constructor
    · rintro rfl
      exact ⟨by decide, sumX_zero f n⟩
    · rintro ⟨h, _⟩
      rw [Nat.pow_zero] at h
      omega
theorem shr_blen {t n : Nat} (h : t >>> n ≠ 0) : blen t = blen (t >>> n) + n := by
  have := blen_shift n t (by rwa [← Nat.shiftRight_eq_div_pow])
  rwa [← Nat.shiftRight_eq_div_pow] at this
theorem not_top {l : List Nat} (hl : Basis l) {s b : Nat} (hb : b ∈ l) (h : blen b = blen (red l s)) (h0 : red l s ≠ 0) : False := by
  have h1 := red_clean l s hl b hb
  rw [h, bit_top h0] at h1
  cases h1
theorem pinv_step {f : Nat → Nat} {n j : Nat} (hj : j < n) {p q : List Nat} (h : PInv f n j p q) : PInv f n (j + 1) (soStep n (p, q) (pk f n (2 ^ j))).1 (soStep n (p, q) (pk f n (2 ^ j))).2 := by
  have hpow : 2 ^ j < 2 ^ (j + 1) := Nat.pow_lt_pow_right (by decide) (by omega)
  have hn : 2 ^ (j + 1) ≤ 2 ^ n := Nat.pow_le_pow_right (by decide) (by omega)
  obtain ⟨x1, hx1, hz⟩ := h.pp _ (red_sp p (pk f n (2 ^ j)))
  have ht : red p (pk f n (2 ^ j)) = pk f n (2 ^ j ^^^ x1) := by
    rw [pk_xor, ← hz, ← Nat.xor_assoc, Nat.xor_self, Nat.zero_xor]
  have hw : (2 ^ j ^^^ x1) < 2 ^ (j + 1) := Nat.xor_lt_two_pow hpow (pow_succ_lt hx1)
  have hwb : (2 ^ j ^^^ x1).testBit j = true := by rw [Nat.testBit_xor, low_bit hx1]; simp
  have hrr : red p (red p (pk f n (2 ^ j))) = red p (pk f n (2 ^ j)) := red_red h.pb _
  have hnt := fun (b : Nat) (hb : b ∈ p) => not_top h.pb (s := pk f n (2 ^ j)) hb
  have hcl := red_clean p (pk f n (2 ^ j)) h.pb
  unfold soStep
  simp only
  rw [ht] at hrr hnt hcl ⊢
  generalize 2 ^ j ^^^ x1 = w at *
  have hwn : w < 2 ^ n := Nat.lt_of_lt_of_le hw hn
  have hsplit : ∀ x, x < 2 ^ (j + 1) → x.testBit j = true → x ^^^ w < 2 ^ j := fun x hx hb => low_of (Nat.xor_lt_two_pow hx hw) (by rw [Nat.testBit_xor, hb, hwb]; rfl)
  have hback : ∀ x, (x ^^^ w) ^^^ w = x := fun x => by rw [Nat.xor_assoc, Nat.xor_self, Nat.xor_zero]
  rw [pk_shr hwn]
  by_cases e : sumX f w n = 0
  · rw [if_pos e, pk_low e]
    refine ⟨h.pb, fun z hz => ?_, fun x hx h0 => ?_, put_basis h.qb _, fun x => ?_⟩
    · obtain ⟨x, hx, rfl⟩ := h.pp z hz
      exact ⟨x, pow_succ_lt hx, rfl⟩
    · cases eb : x.testBit j
      · exact h.pe x (low_of hx eb) h0
      · have hu := hsplit x hx eb
        have hs : sumX f (x ^^^ w) n = sumX f x n := by rw [sumX_xor, e, Nat.xor_zero]
        obtain ⟨b, hb, hbl⟩ := h.pe _ hu (by rw [hs]; exact h0)
        refine ⟨b, hb, ?_⟩
        rw [hbl, pk_blen (Nat.lt_of_lt_of_le (pow_succ_lt hu) hn) (by rw [hs]; exact h0), pk_blen (Nat.lt_of_lt_of_le hx hn) h0, hs]
    · rw [put_sp h.qb, h.qs, h.qs]
      constructor
      · rintro (⟨g1, g2⟩ | ⟨g1, g2⟩)
        · exact ⟨pow_succ_lt g1, g2⟩
        · refine ⟨by rw [← hback x]; exact Nat.xor_lt_two_pow (pow_succ_lt g1) hw, ?_⟩
          rw [sumX_xor, e, Nat.xor_zero] at g2
          exact g2
      · rintro ⟨g1, g2⟩
        cases eb : x.testBit j
        · exact .inl ⟨low_of g1 eb, g2⟩
        · exact .inr ⟨hsplit x g1 eb, by rw [sumX_xor, g2, e]; rfl⟩
  · rw [if_neg e]
    have hbt := pk_blen hwn e
    have ht0 : pk f n w ≠ 0 := fun g => by
      rw [g, blen_zero] at hbt
      have := blen_ne e
      omega
    have hne : ∀ b ∈ p, blen b ≠ blen (pk f n w) := fun b hb g => hnt b hb g ht0
    have hput : put p (pk f n w) = putTop p (pk f n w) := by unfold put; rw [hrr, if_neg ht0]
    have hmem := mem_putTop h.pb ht0 hcl
    have htop : ∀ b ∈ p, ∃ c ∈ put p (pk f n w), blen c = blen b := fun b hb => by
      refine ⟨putOne (pk f n w) b, by rw [hput]; exact (hmem _).2 (.inr ⟨b, hb, rfl⟩), ?_⟩
      rcases Nat.lt_or_gt_of_ne (hne b hb) with g | g
      · rw [putOne_low g]
      · exact putOne_blen ht0 g
    refine ⟨put_basis h.pb _, fun z hz => ?_, fun x hx h0 => ?_, h.qb, fun x => ?_⟩
    · rcases (put_sp h.pb (pk f n w) z).1 hz with g | g
      · obtain ⟨x, hx, rfl⟩ := h.pp z g
        exact ⟨x, pow_succ_lt hx, rfl⟩
      · obtain ⟨x, hx, g2⟩ := h.pp _ g
        refine ⟨x ^^^ w, Nat.xor_lt_two_pow (pow_succ_lt hx) hw, ?_⟩
        rw [pk_xor, ← g2, Nat.xor_assoc, Nat.xor_self, Nat.xor_zero]
    · cases eb : x.testBit j
      · obtain ⟨b, hb, hbl⟩ := h.pe x (low_of hx eb) h0
        obtain ⟨c, hc, hcl2⟩ := htop b hb
        exact ⟨c, hc, by omega⟩
      · have hu := hsplit x hx eb
        have hpx : pk f n x = pk f n (x ^^^ w) ^^^ pk f n w := by rw [← pk_xor, hback]
        by_cases hs : sumX f (x ^^^ w) n = 0
        · have hsx : sumX f x n = sumX f w n := by
            rw [sumX_xor] at hs
            exact xor_zero_iff.1 hs
          exact ⟨pk f n w, by rw [hput]; exact (hmem _).2 (.inl rfl), by rw [hbt, pk_blen (Nat.lt_of_lt_of_le hx hn) h0, hsx]⟩
        · obtain ⟨b, hb, hbl⟩ := h.pe _ hu hs
          have hn1 := hne b hb
          have hm := blen_max (x := pk f n (x ^^^ w)) (y := pk f n w) (by omega)
          rw [← hpx] at hm
          by_cases hlt : blen (pk f n w) < blen b
          · obtain ⟨c, hc, hcl2⟩ := htop b hb
            exact ⟨c, hc, by omega⟩
          · exact ⟨pk f n w, by rw [hput]; exact (hmem _).2 (.inl rfl), by omega⟩
    · rw [h.qs]
      constructor
      · rintro ⟨g1, g2⟩
        exact ⟨pow_succ_lt g1, g2⟩
      · rintro ⟨g1, g2⟩
        cases eb : x.testBit j
        · exact ⟨low_of g1 eb, g2⟩
        · exfalso
          have hu := hsplit x g1 eb
          have hs : sumX f (x ^^^ w) n = sumX f w n := by rw [sumX_xor, g2, Nat.zero_xor]
          obtain ⟨b, hb, hbl⟩ := h.pe _ hu (by rw [hs]; exact e)
          exact hne b hb (by rw [hbl, pk_blen (Nat.lt_of_lt_of_le (pow_succ_lt hu) hn) (by rw [hs]; exact e), hbt, hs])
theorem pinv_go {f : Nat → Nat} {n : Nat} : ∀ (l : List Nat) (j : Nat) (p q : List Nat), PInv f n j p q → j + l.length ≤ n → (∀ i (h : i < l.length), l[i] = pk f n (2 ^ (j + i))) → PInv f n (j + l.length) (soGo n l (p, q)).1 (soGo n l (p, q)).2
  | [], j, p, q, h, _, _ => h
  | s :: r, j, p, q, h, hl, hf => by
    rw [List.length_cons] at hl ⊢
    have e0 : s = pk f n (2 ^ j) := hf 0 (by simp)
    rw [soGo, e0, show j + (r.length + 1) = j + 1 + r.length by omega]
    refine pinv_go r (j + 1) _ _ (pinv_step (by omega) h) (by omega) fun i hi => ?_
    have := hf (i + 1) (by simp; omega)
    rw [List.getElem_cons_succ] at this
    rw [this]
    congr 2
    omega
/-- What the reference solves, and with which presses. -/
theorem solve_up {f : Nat → Nat} {n : Nat} {p q : List Nat} (h : PInv f n n p q) (hf : ∀ i, i < n → f i < 2 ^ n) {y : Nat} (hy : y < 2 ^ n) : (red p (y <<< n) >>> n = 0 ↔ Eff f n y) ∧ (red p (y <<< n) >>> n = 0 → red p (y <<< n) < 2 ^ n ∧ sumX f (red p (y <<< n)) n = y) := by
  obtain ⟨x, hx, hz⟩ := h.pp _ (red_sp p (y <<< n))
  have ht : red p (y <<< n) = x ^^^ (y ^^^ sumX f x n) <<< n := by
    have : red p (y <<< n) = y <<< n ^^^ pk f n x := by rw [← hz, ← Nat.xor_assoc, Nat.xor_self, Nat.zero_xor]
    rw [this]
    unfold pk
    rw [Nat.shiftLeft_xor_distrib, ← Nat.xor_assoc, Nat.xor_comm (y <<< n) x, Nat.xor_assoc]
  have hs : red p (y <<< n) >>> n = y ^^^ sumX f x n := by
    rw [ht, Nat.shiftRight_xor_distrib, Nat.shiftLeft_shiftRight, Nat.shiftRight_eq_div_pow, Nat.div_eq_of_lt hx, Nat.zero_xor]
  refine ⟨⟨fun e => ?_, fun ⟨x2, hx2, e2⟩ => ?_⟩, fun e => ?_⟩
  · rw [hs, xor_zero_iff] at e
    exact ⟨x, hx, e.symm⟩
  · by_cases e : red p (y <<< n) >>> n = 0
    · exact e
    · exfalso
      have hu : sumX f (x2 ^^^ x) n = red p (y <<< n) >>> n := by rw [sumX_xor, e2, hs]
      have hxx : x2 ^^^ x < 2 ^ n := Nat.xor_lt_two_pow hx2 hx
      obtain ⟨b, hb, hbl⟩ := h.pe _ hxx (by rw [hu]; exact e)
      rw [pk_blen hxx (by rw [hu]; exact e), hu, ← shr_blen e] at hbl
      exact not_top h.pb hb hbl (fun g => e (by rw [g]; simp))
  · have e2 : y ^^^ sumX f x n = 0 := by rw [← hs, e]
    rw [e2, Nat.zero_shiftLeft, Nat.xor_zero] at ht
    rw [ht]
    exact ⟨hx, (xor_zero_iff.1 e2).symm⟩
/-- The numbers that the reference makes of a graph's buttons. -/
def pkOf (l : List Int) (own : Bool) (i : Nat) : Nat := 2 ^ i ^^^ (togg l own i).toNat <<< l.length
theorem pkOf_eq (l : List Int) (own : Bool) {i : Nat} (hi : i < l.length) : pkOf l own i = pk (fun j => (togg l own j).toNat) l.length (2 ^ i) := by
  unfold pkOf pk
  rw [sumX_pow, if_pos hi]
theorem pkOf_lt {l : List Int} (hG : GoodG l) (own : Bool) {i : Nat} (hi : i < l.length) : pkOf l own i < 2 ^ 32 := by
  have h1 := togg_bounds l own hG i hi
  have hc := pow_cast l.length
  have hn := hG.top
  have h2 : (togg l own i).toNat < 2 ^ l.length := by omega
  have h3 : (togg l own i).toNat <<< l.length < 2 ^ 32 := by
    rw [Nat.shiftLeft_eq]
    have h4 : (togg l own i).toNat * 2 ^ l.length < 2 ^ l.length * 2 ^ l.length := Nat.mul_lt_mul_of_pos_right h2 (Nat.two_pow_pos _)
    rw [← Nat.pow_add] at h4
    exact Nat.lt_of_lt_of_le h4 (Nat.pow_le_pow_right (by decide) (by omega))
  exact Nat.xor_lt_two_pow (Nat.pow_lt_pow_right (by decide) (by omega)) h3
def pks (l : List Int) (own : Bool) (i d : Nat) : List Nat := (List.range' i d).map (pkOf l own)
theorem pks_succ (l : List Int) (own : Bool) (i d : Nat) : pks l own i (d + 1) = pkOf l own i :: pks l own (i + 1) d := by unfold pks; rw [List.range'_succ, List.map_cons]
/-- The lists are small. -/
structure Small2 (k : Nat) (p q : List Nat) : Prop where
  ps : ∀ b ∈ p, b < 2 ^ 32
  qs : ∀ b ∈ q, b < 2 ^ 32
  pb : Basis p
  qb : Basis q
  pl : p.length ≤ k
  ql : q.length ≤ k
theorem small2_new : Small2 0 [] [] := ⟨fun _ h => by simp at h, fun _ h => by simp at h, basis_nil, basis_nil, Nat.le_refl _, Nat.le_refl _⟩
theorem small2_step {n k : Nat} {p q : List Nat} (h : Small2 k p q) {s : Nat} (hs : s < 2 ^ 32) : Small2 (k + 1) (soStep n (p, q) s).1 (soStep n (p, q) s).2 := by
  have hr := red_lt p s h.ps hs
  have h1 := put_length_le p (red p s)
  have h2 := put_length_le q (red p s)
  have h3 := h.pl
  have h4 := h.ql
  unfold soStep
  split
  · exact ⟨h.ps, put_lt h.qs hr, h.pb, put_basis h.qb _, by simp only; omega, by simp only; omega⟩
  · exact ⟨put_lt h.ps hr, h.qs, put_basis h.pb _, h.qb, by simp only; omega, by simp only; omega⟩
def soQuietN (l : List Int) (own : Bool) : List Nat := (soGo l.length (pks l own 0 l.length) ([], [])).2
def soPairsN (l : List Int) (own : Bool) : List Nat := (soGo l.length (pks l own 0 l.length) ([], [])).1
theorem soN_inv {l : List Int} (own : Bool) : PInv (fun i => (togg l own i).toNat) l.length l.length (soPairsN l own) (soQuietN l own) := by
  have h := pinv_go (pks l own 0 l.length) 0 [] [] (pinv_new (fun i => (togg l own i).toNat) l.length) (by simp [pks]) (fun i hi => by
    have hi2 : i < l.length := by simpa [pks] using hi
    simp only [pks, List.getElem_map, List.getElem_range', Nat.one_mul, Nat.zero_add]
    exact pkOf_eq l own hi2)
  have e : (pks l own 0 l.length).length = l.length := by simp [pks]
  rw [e, Nat.zero_add] at h
  exact h
end Go.Proofs.YtlohlngmagpepaaGreatM
