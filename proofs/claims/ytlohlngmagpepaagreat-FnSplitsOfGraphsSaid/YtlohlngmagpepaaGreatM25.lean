/- Plain laws on odd meetings: what can be solved meets all quiet sets evenly, and what cannot meets some oddly. No program in sight. -/
import Derived.Test.YtlohlngmagpepaaGreatM23
import Derived.Test.YtlohlngmagpepaaGreatM20
namespace Go.Proofs.YtlohlngmagpepaaGreatM
open Go.RowKit Go.Proofs.YtlohlngmagpepaaGreatW.PrintWords Go.Proofs.YtlohlngmagpepaaGreatW.PrintLast Go.Proofs.YtlohlngmagpepaaGreatW.PrintMore
set_option linter.unusedVariables false
set_option linter.unusedSimpArgs false
/-- Two sets meet oddly. -/
def oddm (a b : Nat) : Bool := decide (pop (a &&& b) % 2 = 1)
theorem oddm_comm (a b : Nat) : oddm a b = oddm b a := by unfold oddm; rw [Nat.and_comm]
theorem sum_xor (f g : Nat → Bool) : ∀ (d i : Nat), sumFrom (fun x => one (f x ^^ g x)) i d % 2 = (sumFrom (fun x => one (f x)) i d + sumFrom (fun x => one (g x)) i d) % 2
  | 0, i => rfl
  | d + 1, i => by
    have ih := sum_xor f g d (i + 1)
    simp only [sumFrom]
    have h : one (f i ^^ g i) % 2 = (one (f i) + one (g i)) % 2 := by cases f i <;> cases g i <;> decide
    omega
theorem pop_xor {n a b : Nat} (hn : n ≤ 63) (ha : a < 2 ^ n) (hb : b < 2 ^ n) : pop (a ^^^ b) % 2 = (pop a + pop b) % 2 := by
  rw [pop_sum hn ha, pop_sum hn hb, pop_sum hn (Nat.xor_lt_two_pow ha hb)]
  rw [← sum_xor]
  congr 1
  refine sumFrom_congr _ _ _ _ fun x _ _ => ?_
  rw [Nat.testBit_xor]
theorem and_low {a b n : Nat} (h : b < 2 ^ n) : a &&& b < 2 ^ n := Nat.lt_of_le_of_lt Nat.and_le_right h
theorem oddm_xor {n : Nat} (hn : n ≤ 63) (a b : Nat) {c : Nat} (hc : c < 2 ^ n) : oddm (a ^^^ b) c = (oddm a c ^^ oddm b c) := by
  unfold oddm
  rw [Nat.and_xor_distrib_right]
  have h := pop_xor hn (and_low (a := a) hc) (and_low (a := b) hc)
  rcases Nat.mod_two_eq_zero_or_one (pop (a &&& c)) with h1 | h1 <;> rcases Nat.mod_two_eq_zero_or_one (pop (b &&& c)) with h2 | h2 <;> simp [h, h1, h2, Nat.add_mod]
theorem oddm_zero (c : Nat) : oddm 0 c = false := by
  unfold oddm
  rw [Nat.zero_and, pop]
  rfl
theorem pop_one (i : Nat) : pop (2 ^ i) = 1 := by
  induction i with
  | zero => rw [pop, if_neg (by decide)]; show 1 % 2 + pop 0 = 1; rw [pop]; rfl
  | succ i ih =>
    rw [pop, if_neg (Nat.ne_of_gt (Nat.two_pow_pos _)), Nat.pow_succ, Nat.mul_mod_left, Nat.mul_div_cancel _ (by decide), ih]
theorem oddm_pow (i c : Nat) : oddm (2 ^ i) c = c.testBit i := by
  unfold oddm
  have e : 2 ^ i &&& c = if c.testBit i = true then 2 ^ i else 0 := by
    apply Nat.eq_of_testBit_eq
    intro j
    rw [Nat.testBit_and, Nat.testBit_two_pow]
    by_cases h : i = j
    · subst h
      split
      · next h => simp [h]
      · next h => simp at h; simp [h]
    · split <;> simp [h]
  rw [e]
  split
  · next h => rw [pop_one, h]; rfl
  · next h =>
    have : c.testBit i = false := by simpa using h
    rw [this, pop]
    rfl
theorem oddm_xs {n : Nat} (hn : n ≤ 63) {c : Nat} (hc : c < 2 ^ n) : ∀ l : List Nat, (∀ b ∈ l, oddm b c = false) → oddm (xs l) c = false
  | [], _ => oddm_zero c
  | b :: l, h => by rw [xs_cons, oddm_xor hn _ _ hc, h b List.mem_cons_self, oddm_xs hn hc l fun x hx => h x (List.mem_cons_of_mem _ hx)]; rfl
/-- A sum of a basis that meets oddly: so does one of the basis. -/
theorem oddm_some {n : Nat} (hn : n ≤ 63) {c : Nat} (hc : c < 2 ^ n) {l : List Nat} {z : Nat} (hz : Sp l z) (h : oddm z c = true) : ∃ b ∈ l, oddm b c = true := by
  by_cases e : ∃ b ∈ l, oddm b c = true
  · exact e
  · obtain ⟨d, hd, rfl⟩ := hz
    have := oddm_xs hn hc d fun b hb => by
      by_cases hb2 : oddm b c = true
      · exact absurd ⟨b, hd b hb, hb2⟩ e
      · simpa using hb2
    rw [this] at h
    cases h
/-- For a basis: a set that meets all of it evenly, and meets oddly what is no sum of it. -/
def apartOf (l : List Nat) (t : Nat) : Nat := 2 ^ t ^^^ xs ((l.filter fun b => b.testBit t).map fun b => 2 ^ (blen b - 1))
theorem xs_even {n : Nat} (hn : n ≤ 63) {c : Nat} (hc : c < 2 ^ n) : ∀ l : List Nat, (∀ b ∈ l, c.testBit (blen b - 1) = false) → oddm (xs (l.map fun b => 2 ^ (blen b - 1))) c = false
  | [], _ => oddm_zero c
  | b :: l, h => by rw [List.map_cons, xs_cons, oddm_xor hn _ _ hc, oddm_pow, h b List.mem_cons_self, xs_even hn hc l fun x hx => h x (List.mem_cons_of_mem _ hx)]; rfl
theorem xs_odd {n : Nat} (hn : n ≤ 63) {c : Nat} (hc : c < 2 ^ n) : ∀ l : List Nat, l.Pairwise (fun a b => blen a < blen b) → (∀ b ∈ l, c.testBit (blen b - 1) = decide (blen b = blen c)) → c ∈ l → c ≠ 0 → oddm (xs (l.map fun b => 2 ^ (blen b - 1))) c = true
  | [], _, _, h, _ => by simp at h
  | b :: l, hp, h, hm, h0 => by
    obtain ⟨h1, h2⟩ := List.pairwise_cons.1 hp
    rw [List.map_cons, xs_cons, oddm_xor hn _ _ hc, oddm_pow]
    by_cases e : blen b = blen c
    · rw [h b List.mem_cons_self, decide_eq_true e, xs_even hn hc l fun x hx => by
        rw [h x (List.mem_cons_of_mem _ hx), decide_eq_false]
        have := h1 x hx
        omega]
      rfl
    · have hm2 : c ∈ l := by
        rcases List.mem_cons.1 hm with e2 | hm
        · exact absurd (by rw [e2]) e
        · exact hm
      rw [h b List.mem_cons_self, decide_eq_false e, xs_odd hn hc l h2 (fun x hx => h x (List.mem_cons_of_mem _ hx)) hm2 h0]
      rfl
theorem apart_even {n : Nat} (hn : n ≤ 63) {l : List Nat} (hl : Basis l) {t : Nat} {c : Nat} (hc : c < 2 ^ n) (hm : c ∈ l) : oddm (apartOf l t) c = false := by
  have hb : ∀ b ∈ l, c.testBit (blen b - 1) = decide (blen b = blen c) := fun b hb => by
    by_cases e : blen b = blen c
    · rw [decide_eq_true e, e, bit_top (hl.pos c hm)]
    · rw [decide_eq_false e, basis_clean hl c hm b hb e]
  unfold apartOf
  rw [oddm_xor hn _ _ hc, oddm_pow]
  have hf : ∀ b ∈ l.filter (fun b => b.testBit t), c.testBit (blen b - 1) = decide (blen b = blen c) := fun b h => hb b ((List.mem_filter.1 h).1)
  cases e : c.testBit t
  · rw [xs_even hn hc _ fun b h => by
      rw [hf b h, decide_eq_false]
      intro e2
      have h3 := List.mem_filter.1 h
      have : b = c := by
        by_cases h4 : b ^^^ c = 0
        · exact xor_zero_iff.1 h4
        · exfalso
          have hlt := blen_xor' (hl.pos b h3.1) e2.symm
          obtain ⟨d, hd, ed⟩ := sp_top hl ((Sp.one h3.1).add (Sp.one hm)) h4
          have g1 := basis_clean hl b h3.1 d hd (by omega)
          have g2 := basis_clean hl c hm d hd (by omega)
          have g3 := bit_top h4
          rw [← ed, Nat.testBit_xor, g1, g2] at g3
          simp at g3
      rw [this, e] at h3
      simp at h3]
    rfl
  · rw [xs_odd hn hc _ (hl.up.filter _) hf (List.mem_filter.2 ⟨hm, e⟩) (hl.pos c hm)]
    rfl
theorem apartOf_lt {n : Nat} {l : List Nat} (hl : Basis l) (hlt : ∀ b ∈ l, b < 2 ^ n) {t : Nat} (ht : t < n) : apartOf l t < 2 ^ n := by
  unfold apartOf
  refine Nat.xor_lt_two_pow (Nat.pow_lt_pow_right (by decide) ht) ?_
  have : ∀ m : List Nat, (∀ b ∈ m, b ∈ l) → xs (m.map fun b => 2 ^ (blen b - 1)) < 2 ^ n := fun m => by
    induction m with
    | nil => exact fun _ => Nat.two_pow_pos n
    | cons b m ih =>
      intro hm
      rw [List.map_cons, xs_cons]
      have hb := hm b List.mem_cons_self
      have h2 := blen_le (hlt b hb)
      have h3 := blen_ne (hl.pos b hb)
      exact Nat.xor_lt_two_pow (Nat.pow_lt_pow_right (by decide) (by omega)) (ih fun x hx => hm x (List.mem_cons_of_mem _ hx))
  exact this _ fun b hb => (List.mem_filter.1 hb).1
theorem apart_odd {n : Nat} (hn : n ≤ 63) {l : List Nat} (hl : Basis l) (hlt : ∀ b ∈ l, b < 2 ^ n) {y : Nat} (hy : y < 2 ^ n) (h : ¬ Sp l y) : ∃ z, z < 2 ^ n ∧ (∀ b ∈ l, oddm z b = false) ∧ oddm z y = true := by
  have hr0 : red l y ≠ 0 := fun e => h ((sp_iff hl y).2 e)
  have hrl := red_lt l y hlt hy
  have hbl := blen_le hrl
  have hb1 := blen_ne hr0
  have hz := apartOf_lt hl hlt (show blen (red l y) - 1 < n by omega)
  have he : ∀ b ∈ l, oddm (apartOf l (blen (red l y) - 1)) b = false := fun b hb => apart_even hn hl (hlt b hb) hb
  have h2 : oddm (apartOf l (blen (red l y) - 1)) (red l y) = true := by
    unfold apartOf
    rw [oddm_xor hn _ _ hrl, oddm_pow, bit_top hr0, xs_even hn hrl _ fun b hb => red_clean l y hl b ((List.mem_filter.1 hb).1)]
    rfl
  generalize apartOf l (blen (red l y) - 1) = z at *
  refine ⟨z, hz, he, ?_⟩
  obtain ⟨d, hd, e⟩ := red_sp l y
  have h1 : oddm (y ^^^ red l y) z = false := by
    rw [e]
    exact oddm_xs hn hz d fun b hb => by rw [oddm_comm]; exact he b (hd b hb)
  have h3 : y = (y ^^^ red l y) ^^^ red l y := by rw [Nat.xor_assoc, Nat.xor_self, Nat.xor_zero]
  rw [oddm_comm, h3, oddm_xor hn _ _ hz, h1, oddm_comm, h2]
  rfl
/-- Effects below 2 ^ n that meet alike both ways. -/
structure SymF (f : Nat → Nat) (n : Nat) : Prop where
  lt : ∀ i, i < n → f i < 2 ^ n
  sym : ∀ i j, i < n → j < n → (f i).testBit j = (f j).testBit i
theorem sumX_par {f : Nat → Nat} {n : Nat} (h : SymF f n) (hn : n ≤ 63) (x : Nat) {i : Nat} (hi : i < n) : (sumX f x n).testBit i = oddm x (f i) := by
  rw [sumX_bit]
  unfold oddm
  rw [pop_sum hn (and_low (a := x) (h.lt i hi))]
  congr 3
  refine sumFrom_congr _ _ _ _ fun j _ hj => ?_
  rw [Nat.testBit_and, h.sym j i (by omega) hi]
theorem sum_even {f : Nat → Nat} {n : Nat} (h : SymF f n) (hn : n ≤ 63) {z : Nat} (hz : z < 2 ^ n) (he : ∀ i, i < n → oddm z (f i) = false) : sumX f z n = 0 := by
  apply Nat.eq_of_testBit_eq
  intro i
  rw [Nat.zero_testBit]
  by_cases hi : i < n
  · rw [sumX_par h hn z hi, he i hi]
  · exact Nat.testBit_lt_two_pow (Nat.lt_of_lt_of_le (sumX_lt f z n n h.lt) (Nat.pow_le_pow_right (by decide) (by omega)))
/-- Quiet sets meet effects evenly. -/
theorem quiet_meets {f : Nat → Nat} {n : Nat} (h : SymF f n) (hn : n ≤ 63) {q : Nat} (hq : q < 2 ^ n) (h0 : sumX f q n = 0) (x : Nat) : oddm q (sumX f x n) = false := by
  have he : ∀ i, i < n → oddm (f i) q = false := fun i hi => by
    rw [oddm_comm, ← sumX_par h hn q hi, h0, Nat.zero_testBit]
  have : ∀ m, m ≤ n → oddm (sumX f x m) q = false := fun m => by
    induction m with
    | zero => exact fun _ => oddm_zero q
    | succ m ih =>
      intro hm
      rw [sumX, oddm_xor hn _ _ hq, ih (by omega)]
      split
      · rw [he m (by omega)]; rfl
      · rw [oddm_zero]; rfl
  rw [oddm_comm]
  exact this n (Nat.le_refl n)
theorem inv_image_lt {f : Nat → Nat} {n : Nat} (h : SymF f n) {s : Sv} (hI : Inv f n s) : ∀ b ∈ s.image, b < 2 ^ n := fun b hb => by
  obtain ⟨x, _, rfl⟩ := (hI.is b).1 (Sp.one hb)
  exact sumX_lt f x n n h.lt
/-- What is no effect meets some quiet set of the basis oddly. -/
theorem refused {f : Nat → Nat} {n : Nat} (h : SymF f n) (hn : n ≤ 63) {s : Sv} (hI : Inv f n s) {y : Nat} (hy : y < 2 ^ n) (he : ¬ Eff f n y) : ∃ b ∈ s.quiet, oddm b y = true := by
  obtain ⟨z, hz, hz1, hz2⟩ := apart_odd hn hI.ib (inv_image_lt h hI) hy (fun g => he ((hI.is y).1 g))
  have h0 : sumX f z n = 0 := sum_even h hn hz fun i hi => by
    have hm : Sp s.image (f i) := (hI.is _).2 ⟨2 ^ i, Nat.pow_lt_pow_right (by decide) hi, by rw [sumX_pow, if_pos hi]⟩
    obtain ⟨d, hd, e⟩ := hm
    rw [oddm_comm, e]
    exact oddm_xs hn hz d fun b hb => by rw [oddm_comm]; exact hz1 b (hd b hb)
  exact oddm_some hn hy ((hI.qs z).2 ⟨hz, h0⟩) hz2
theorem met {f : Nat → Nat} {n : Nat} (h : SymF f n) (hn : n ≤ 63) {s : Sv} (hI : Inv f n s) {y : Nat} (he : Eff f n y) : ∀ b ∈ s.quiet, oddm b y = false := fun b hb => by
  obtain ⟨h1, h2⟩ := (hI.qs b).1 (Sp.one hb)
  obtain ⟨x, _, rfl⟩ := he
  exact quiet_meets h hn h1 h2 x
/-- A graph's toggles meet alike both ways. -/
theorem sym_graph {l : List Int} (hG : GoodG l) (own : Bool) : SymF (fun i => (togg l own i).toNat) l.length := by
  constructor
  · intro i hi
    have := togg_bounds l own hG i hi
    have hc := pow_cast l.length
    show (togg l own i).toNat < 2 ^ l.length
    omega
  · intro i j hi hj
    have h1 := nb_sym hG hi hj
    unfold nb at h1
    unfold togg
    cases own
    · exact h1
    · simp only [if_true, Int.toNat_natCast, Nat.testBit_or, Nat.testBit_two_pow]
      rw [h1, show decide (i = j) = decide (j = i) from decide_eq_decide.2 ⟨Eq.symm, Eq.symm⟩]
theorem inv_graph {l : List Int} (hG : GoodG l) (own : Bool) : Inv (fun i => (togg l own i).toNat) l.length (svOf (togs l own)) := by
  have hl := (togs_ints l own hG).2.1
  have := inv_of (f := fun i => (togg l own i).toNat) (l := togs l own) (fun i hi => by
    unfold togs toggles
    simp)
  rwa [hl] at this
end Go.Proofs.YtlohlngmagpepaaGreatM
