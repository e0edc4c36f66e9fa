/- Plain laws on splits of graphs: what is to be solved can be, its solutions are the splits, in order. No program in sight. -/
import Derived.Test.YtlohlngmagpepaaGreatM29
import Derived.Test.YtlohlngmagpepaaGreatM31
import Derived.Test.YtlohlngmagpepaaGreatM37
namespace Go.Proofs.YtlohlngmagpepaaGreatM
open Go.RowKit Go.Proofs.YtlohlngmagpepaaGreatW.PrintWords Go.Proofs.YtlohlngmagpepaaGreatW.PrintLast Go.Proofs.YtlohlngmagpepaaGreatW.PrintMore
set_option linter.unusedVariables false
set_option linter.unusedSimpArgs false
/-- Does a button ask for an odd number? -/
def duP (l : List Int) (r i : Nat) : Bool := decide ((pop (nb l i) + r) % 2 = 1)
/-- A button's row: its neighbours, and itself if it asks for an odd number. -/
def rowP (l : List Int) (r i : Nat) : Nat := if duP l r i = true then nb l i ||| 2 ^ i else nb l i
/-- The buttons, of the first so many, that ask for an odd number. -/
def dueP (l : List Int) (r : Nat) : Nat → Nat
  | 0 => 0
  | t + 1 => if duP l r t = true then dueP l r t ||| 2 ^ t else dueP l r t
def rowsP (l : List Int) (r : Nat) : List Nat := (List.range l.length).map (rowP l r)
theorem dueP_bit (l : List Int) (r j : Nat) : ∀ t, (dueP l r t).testBit j = (decide (j < t) && duP l r j)
  | 0 => by simp [dueP]
  | t + 1 => by
    have ih := dueP_bit l r j t
    rw [dueP]
    cases e : duP l r t
    · rw [if_neg (by decide), ih]
      by_cases h : j = t
      · subst h
        rw [e]
        simp
      · have : (j < t + 1) = (j < t) := by simp; omega
        simp only [this]
    · rw [if_pos rfl, Nat.testBit_or, ih, Nat.testBit_two_pow]
      by_cases h : j = t
      · subst h
        rw [e]
        simp
      · have h1 : (j < t + 1) = (j < t) := by simp; omega
        have h2 : decide (t = j) = false := decide_eq_false (fun e => h e.symm)
        simp only [h1, h2, Bool.or_false]
theorem dueP_lt (l : List Int) (r : Nat) : ∀ t, dueP l r t < 2 ^ t
  | 0 => by rw [dueP]; decide
  | t + 1 => by
    have ih := dueP_lt l r t
    rw [dueP]
    split
    · exact Nat.or_lt_two_pow (Nat.lt_of_lt_of_le ih (Nat.pow_le_pow_right (by decide) (by omega))) (Nat.pow_lt_pow_right (by decide) (by omega))
    · exact Nat.lt_of_lt_of_le ih (Nat.pow_le_pow_right (by decide) (by omega))
theorem rowP_xor {l : List Int} (hG : GoodG l) (r : Nat) {i : Nat} (hi : i < l.length) : rowP l r i = nb l i ^^^ (if duP l r i = true then 2 ^ i else 0) := by
  unfold rowP
  split
  · apply Nat.eq_of_testBit_eq
    intro j
    rw [Nat.testBit_or, Nat.testBit_xor, Nat.testBit_two_pow]
    by_cases e : i = j
    · subst e
      rw [nb_irr hG hi]
      simp
    · simp [e]
  · rw [Nat.xor_zero]
theorem rowP_sym {l : List Int} (hG : GoodG l) (r : Nat) : SymF (rowP l r) l.length := by
  refine ⟨fun i hi => ?_, fun i j hi hj => ?_⟩
  · unfold rowP
    split
    · exact Nat.or_lt_two_pow (nb_lt hG hi) (Nat.pow_lt_pow_right (by decide) hi)
    · exact nb_lt hG hi
  · have hb : ∀ (a b : Nat), (if duP l r a = true then 2 ^ a else 0).testBit b = (duP l r a && decide (a = b)) := fun a b => by
      cases duP l r a
      · rw [if_neg (by decide), Nat.zero_testBit]; rfl
      · rw [if_pos rfl, Nat.testBit_two_pow]; rfl
    rw [rowP_xor hG r hi, rowP_xor hG r hj, Nat.testBit_xor, Nat.testBit_xor, nb_sym hG hi hj, hb, hb]
    by_cases e : i = j
    · subst e
      rfl
    · rw [decide_eq_false e, decide_eq_false (fun h => e h.symm), Bool.and_false, Bool.and_false]
theorem rowP_odd {l : List Int} (hG : GoodG l) (r : Nat) {i x : Nat} (hi : i < l.length) (hx : x < 2 ^ l.length) : oddm x (rowP l r i) = (oddm x (nb l i) ^^ (duP l r i && x.testBit i)) := by
  have hn : l.length ≤ 63 := by have := hG.top; omega
  rw [rowP_xor hG r hi, oddm_comm, oddm_xor hn _ _ hx, oddm_comm]
  cases duP l r i
  · rw [if_neg (by decide), oddm_zero, Bool.false_and]
  · rw [if_pos rfl, oddm_pow, Bool.true_and]
theorem sum_par (f : Nat → Nat) (s : Nat) (g : Nat → Bool) : ∀ (d i : Nat), (∀ x, i ≤ x → x < i + d → s.testBit x = true → f x % 2 = one (g x)) → sumFrom (fun x => if s.testBit x = true then f x else 0) i d % 2 = sumFrom (fun x => one (s.testBit x && g x)) i d % 2
  | 0, i, _ => rfl
  | d + 1, i, h => by
    have ih := sum_par f s g d (i + 1) fun x h1 h2 => h x (by omega) (by omega)
    simp only [sumFrom]
    have h1 : (if s.testBit i = true then f i else 0) % 2 = one (s.testBit i && g i) % 2 := by
      cases e : s.testBit i
      · rfl
      · rw [if_pos rfl, h i (Nat.le_refl i) (by omega) e, Bool.true_and]
        have := one_le (g i)
        omega
    omega
/-- What is asked for meets no quiet set oddly. -/
theorem due_quiet {l : List Int} (hG : GoodG l) (r : Nat) {q : Nat} (hq : q < 2 ^ l.length) (h0 : sumX (rowP l r) q l.length = 0) : oddm q (dueP l r l.length) = false := by
  have hn : l.length ≤ 63 := by have := hG.top; omega
  have hc := pow_cast l.length
  have h1 := meets_twice l hG (q : Int) (by omega) (by omega)
  rw [meets_nat] at h1
  have h2 := sum_par (meet l q) q (duP l r) l.length 0 fun i _ hi hb => by
    have hi : i < l.length := by omega
    have h3 := sumX_par (rowP_sym hG r) hn q hi
    rw [h0, Nat.zero_testBit, rowP_odd hG r hi hq, hb, Bool.and_true] at h3
    have h4 : oddm q (nb l i) = duP l r i := by
      cases e1 : oddm q (nb l i) <;> cases e2 : duP l r i <;> rw [e1, e2] at h3 <;> first | rfl | cases h3
    rw [oddm_comm] at h4
    unfold oddm at h4
    unfold meet
    rw [← h4]
    by_cases e : pop (nb l i &&& q) % 2 = 1
    · rw [e]
      rfl
    · rw [decide_eq_false e]
      show _ = 0
      omega
  rw [h1] at h2
  have h5 : pop (q &&& dueP l r l.length) = sumFrom (fun x => one (q.testBit x && duP l r x)) 0 l.length := by
    rw [pop_sum hn (Nat.lt_of_le_of_lt Nat.and_le_left hq)]
    refine sumFrom_congr _ _ _ _ fun x _ hx => ?_
    rw [Nat.testBit_and, dueP_bit, decide_eq_true (by omega : x < l.length), Bool.true_and]
  unfold oddm
  rw [h5]
  exact decide_eq_false (by omega)
/-- The solver of a graph's splits. -/
def svP (l : List Int) (r : Nat) : Sv := svOf (rowsP l r)
theorem rowsP_length (l : List Int) (r : Nat) : (rowsP l r).length = l.length := by unfold rowsP; simp
theorem rowsP_get (l : List Int) (r i : Nat) (h : i < (rowsP l r).length) : (rowsP l r)[i] = rowP l r i := by simp only [rowsP, List.getElem_map, List.getElem_range]
theorem inv_P (l : List Int) (r : Nat) : Inv (rowP l r) l.length (svP l r) := by
  have h := inv_of (f := rowP l r) (l := rowsP l r) (rowsP_get l r)
  rwa [rowsP_length] at h
theorem due_reach {l : List Int} (hG : GoodG l) (r : Nat) : (reach (svP l r).ps (dueP l r l.length)).1 = 0 := by
  have hn : l.length ≤ 63 := by have := hG.top; omega
  refine (reach_iff (inv_P l r) _).2 (Classical.byContradiction fun h => ?_)
  obtain ⟨b, hb, ho⟩ := refused (rowP_sym hG r) hn (inv_P l r) (dueP_lt l r _) h
  have hs := ((inv_P l r).qs b).1 (Sp.one hb)
  rw [due_quiet hG r hs.1 hs.2] at ho
  cases ho
/-- The least split. -/
def spP (l : List Int) (r : Nat) : Nat := red (svP l r).quiet (reach (svP l r).ps (dueP l r l.length)).2
theorem spP_least {l : List Int} (hG : GoodG l) (r : Nat) : spP l r < 2 ^ l.length ∧ sumX (rowP l r) (spP l r) l.length = dueP l r l.length ∧ ∀ z, z < 2 ^ l.length → sumX (rowP l r) z l.length = dueP l r l.length → spP l r ≤ z := solve_least (inv_P l r) (due_reach hG r)
theorem pa_P {l : List Int} (hG : GoodG l) (r : Nat) : PaOk l.length (rowsP l r) (dueP l r l.length) (spP l r) (svP l r).quiet.length := by
  have hS := rowP_sym hG r
  have hn : l.length ≤ 63 := by have := hG.top; omega
  obtain ⟨h1, h2, _, h4, h5, h6⟩ := pa_all hS hn (inv_P l r) (dueP_lt l r l.length) (due_reach hG r) (l := rowsP l r) rfl (svGo_image _ 0 svNew)
  have ee : eqsOf (fun i => (rowsP l r).getD i 0) l.length (dueP l r l.length) = eqsOf (rowP l r) l.length (dueP l r l.length) := eqsOf_congr (fun i hi => by
    rw [List.getD_eq_getElem?_getD, List.getElem?_eq_getElem (by rw [rowsP_length]; exact hi), Option.getD_some, rowsP_get]) _
  exact ⟨hG.top, rowsP_length l r, dueP_lt l r _, h2, by rw [ee]; exact eqsOf_ok hS.lt _, by rw [ee]; exact h1, by rw [ee]; exact h4, by rw [ee]; exact h5, by rw [ee]; exact h6⟩
theorem svP_quiet {l : List Int} (hG : GoodG l) (r : Nat) : (∀ b ∈ (svP l r).quiet, b < 2 ^ l.length) ∧ (svP l r).quiet.length ≤ l.length ∧ Basis (svP l r).quiet := by
  refine ⟨fun b hb => (((inv_P l r).qs b).1 (Sp.one hb)).1, ?_, (inv_P l r).qb⟩
  have := (inv_P l r).rq
  omega
/-- Do all inner degrees of a set leave a rest? -/
def evenP (l : List Int) (s r : Nat) : Bool := (List.range l.length).all fun i => !s.testBit i || decide (pop (nb l i &&& s) % 2 = r)
theorem evenP_iff (l : List Int) (s r : Nat) : evenP l s r = true ↔ ∀ i, i < l.length → s.testBit i = true → pop (nb l i &&& s) % 2 = r := by
  unfold evenP
  rw [List.all_eq_true]
  constructor
  · intro h i hi hb
    have := h i (List.mem_range.2 hi)
    rw [hb] at this
    simpa using this
  · intro h i hi
    cases hb : s.testBit i
    · rfl
    · rw [h i (List.mem_range.1 hi) hb]
      simp
/-- A set's all others. -/
def othersP (l : List Int) (s : Nat) : Nat := s ^^^ (2 ^ l.length - 1)
theorem others_lt {l : List Int} {s : Nat} (hs : s < 2 ^ l.length) : othersP l s < 2 ^ l.length := Nat.xor_lt_two_pow hs (by have := Nat.two_pow_pos l.length; omega)
theorem others_bit (l : List Int) (s : Nat) {i : Nat} (hi : i < l.length) : (othersP l s).testBit i = !s.testBit i := by
  unfold othersP
  rw [Nat.testBit_xor, Nat.testBit_two_pow_sub_one, decide_eq_true hi, Bool.xor_true]
theorem odd_dec (a b : Nat) : oddm a b = decide (pop (b &&& a) % 2 = 1) := by rw [oddm_comm]; rfl
theorem others_odd {l : List Int} (hG : GoodG l) {s i : Nat} (hi : i < l.length) : oddm (othersP l s) (nb l i) = (oddm s (nb l i) ^^ decide (pop (nb l i) % 2 = 1)) := by
  have hn : l.length ≤ 63 := by have := hG.top; omega
  unfold othersP
  have ea : (2 ^ l.length - 1) &&& nb l i = nb l i := by
    apply Nat.eq_of_testBit_eq
    intro j
    rw [Nat.testBit_and, Nat.testBit_two_pow_sub_one]
    by_cases hj : j < l.length
    · rw [decide_eq_true hj, Bool.true_and]
    · rw [Nat.testBit_lt_two_pow (Nat.lt_of_lt_of_le (nb_lt hG hi) (Nat.pow_le_pow_right (by decide) (by omega))), Bool.and_false]
  rw [oddm_xor hn _ _ (nb_lt hG hi)]
  congr 1
  unfold oddm
  rw [ea]
/-- What is solved is a split, and conversely. -/
theorem split_iff {l : List Int} (hG : GoodG l) {x r : Nat} (hx : x < 2 ^ l.length) (hr : r < 2) : sumX (rowP l r) x l.length = dueP l r l.length ↔ evenP l x 0 = true ∧ evenP l (othersP l x) r = true := by
  have hn : l.length ≤ 63 := by have := hG.top; omega
  have key : ∀ i, i < l.length → ((sumX (rowP l r) x l.length).testBit i = (dueP l r l.length).testBit i ↔ ((x.testBit i = true → pop (nb l i &&& x) % 2 = 0) ∧ ((othersP l x).testBit i = true → pop (nb l i &&& othersP l x) % 2 = r))) := fun i hi => by
    rw [sumX_par (rowP_sym hG r) hn x hi, rowP_odd hG r hi hx, dueP_bit, decide_eq_true hi, Bool.true_and, others_bit l x hi]
    have h1 := others_odd hG (s := x) hi
    rw [odd_dec, odd_dec] at h1
    rw [odd_dec]
    unfold duP
    have e0 : r = 0 ∨ r = 1 := by omega
    have ha : pop (nb l i &&& x) % 2 = 0 ∨ pop (nb l i &&& x) % 2 = 1 := by omega
    have hb : pop (nb l i) % 2 = 0 ∨ pop (nb l i) % 2 = 1 := by omega
    have hc : pop (nb l i &&& othersP l x) % 2 = 0 ∨ pop (nb l i &&& othersP l x) % 2 = 1 := by omega
    have hd : (pop (nb l i) + r) % 2 = (pop (nb l i) % 2 + r) % 2 := by omega
    rw [hd]
    rcases e0 with e0 | e0 <;> rcases ha with ha | ha <;> rcases hb with hb | hb <;> rcases hc with hc | hc <;> rw [ha, hb, hc] at h1 <;> rw [ha, hb, hc, e0] <;> first | (exact absurd h1 (by decide)) | (cases x.testBit i <;> decide)
  constructor
  · intro h
    have h2 : ∀ i, i < l.length → _ := fun i hi => (key i hi).1 (by rw [h])
    exact ⟨(evenP_iff _ _ _).2 fun i hi hb => (h2 i hi).1 hb, (evenP_iff _ _ _).2 fun i hi hb => (h2 i hi).2 hb⟩
  · rintro ⟨h1, h2⟩
    apply Nat.eq_of_testBit_eq
    intro i
    by_cases hi : i < l.length
    · exact (key i hi).2 ⟨fun hb => (evenP_iff _ _ _).1 h1 i hi hb, fun hb => (evenP_iff _ _ _).1 h2 i hi hb⟩
    · have hle : (2 : Nat) ^ l.length ≤ 2 ^ i := Nat.pow_le_pow_right (by decide) (by omega)
      rw [Nat.testBit_lt_two_pow (Nat.lt_of_lt_of_le (sumX_lt _ x _ _ (rowP_sym hG r).lt) hle), Nat.testBit_lt_two_pow (Nat.lt_of_lt_of_le (dueP_lt l r _) hle)]
theorem sums_mono : ∀ (q o : List Nat) (x : Nat), x ∈ o → x ∈ sumsGo o q
  | [], o, x, h => h
  | b :: q, o, x, h => sums_mono q _ x (List.mem_append_left _ h)
theorem sums_shut {c : Nat} : ∀ (q o : List Nat), (∀ x ∈ o, x ^^^ c ∈ o) → ∀ x ∈ sumsGo o q, x ^^^ c ∈ sumsGo o q
  | [], o, h => h
  | b :: q, o, h => sums_shut q _ fun x hx => by
    rcases List.mem_append.1 hx with hx | hx
    · exact List.mem_append_left _ (h x hx)
    · obtain ⟨z, hz, rfl⟩ := List.mem_map.1 hx
      exact List.mem_append_right _ (List.mem_map.2 ⟨z ^^^ c, h z hz, by rw [Nat.xor_assoc, Nat.xor_comm c b, ← Nat.xor_assoc]⟩)
theorem sums_has {c : Nat} : ∀ (q o : List Nat), c ∈ q → ∀ x ∈ sumsGo o q, x ^^^ c ∈ sumsGo o q
  | [], o, h => by cases h
  | b :: q, o, h => by
    rcases List.mem_cons.1 h with rfl | h
    · refine sums_shut q _ fun x hx => ?_
      rcases List.mem_append.1 hx with hx | hx
      · exact List.mem_append_right _ (List.mem_map.2 ⟨x, hx, rfl⟩)
      · obtain ⟨z, hz, rfl⟩ := List.mem_map.1 hx
        rw [Nat.xor_assoc, Nat.xor_self, Nat.xor_zero]
        exact List.mem_append_left _ hz
    · exact sums_has q _ h
/-- All sums of a basis, each of them. -/
theorem sums_mem {q : List Nat} (hq : Basis q) (x : Nat) : x ∈ sums q ↔ Sp q x := by
  refine ⟨(sums_all hq).sp x, ?_⟩
  rintro ⟨c, hc, rfl⟩
  induction c with
  | nil => exact sums_mono q [0] 0 (List.mem_singleton.2 rfl)
  | cons b c ih =>
    have h1 := sums_has q [0] (hc b List.mem_cons_self) _ (ih fun z hz => hc z (List.mem_cons_of_mem _ hz))
    have e : xs (b :: c) = xs c ^^^ b := by
      first
        | rfl
        | (show b ^^^ xs c = _; exact Nat.xor_comm _ _)
    rw [e]
    exact h1
theorem up_ext : ∀ {a b : List Nat}, a.Pairwise (fun x y => x < y) → b.Pairwise (fun x y => x < y) → (∀ x, x ∈ a ↔ x ∈ b) → a = b
  | [], [], _, _, _ => rfl
  | [], y :: b, _, _, h => by cases (h y).2 List.mem_cons_self
  | x :: a, [], _, _, h => by cases (h x).1 List.mem_cons_self
  | x :: a, y :: b, ha, hb, h => by
    rw [List.pairwise_cons] at ha hb
    have e : x = y := by
      rcases List.mem_cons.1 ((h x).1 List.mem_cons_self) with e | h1
      · exact e
      · rcases List.mem_cons.1 ((h y).2 List.mem_cons_self) with e | h2
        · exact e.symm
        · have := hb.1 x h1
          have := ha.1 y h2
          omega
    subst e
    rw [up_ext ha.2 hb.2 fun z => ?_]
    constructor
    · intro hz
      rcases List.mem_cons.1 ((h z).1 (List.mem_cons_of_mem _ hz)) with e | h1
      · have := ha.1 z hz
        omega
      · exact h1
    · intro hz
      rcases List.mem_cons.1 ((h z).2 (List.mem_cons_of_mem _ hz)) with e | h1
      · have := hb.1 z hz
        omega
      · exact h1
/-- All even splits, in order. -/
def solsP (l : List Int) : List Nat := (List.range (2 ^ l.length)).filter fun x => evenP l x 0 && evenP l (othersP l x) 0
theorem solsP_mem (l : List Int) (x : Nat) : x ∈ solsP l ↔ x < 2 ^ l.length ∧ evenP l x 0 = true ∧ evenP l (othersP l x) 0 = true := by
  unfold solsP
  rw [List.mem_filter, List.mem_range, Bool.and_eq_true]
theorem range_up (n : Nat) : (List.range n).Pairwise (fun x y => x < y) := List.pairwise_lt_range
/-- The least split and the sums of the quiet basis: all splits, in order. -/
theorem sols_sums {l : List Int} (hG : GoodG l) : (sums (svP l 0).quiet).map (fun q => spP l 0 ^^^ q) = solsP l := by
  have hI := inv_P l 0
  obtain ⟨hp, hs, _⟩ := spP_least hG 0
  have hA := sums_all hI.qb
  refine up_ext ?_ ((range_up _).filter _) fun x => ?_
  · refine List.pairwise_map.2 ?_
    refine List.Pairwise.imp_of_mem (fun {a b} ha hb hab => ?_) hA.up
    have hsp := (hA.sp a ha).add (hA.sp b hb)
    have hne : a ^^^ b ≠ 0 := fun h => by
      have := xor_zero_iff.1 h
      omega
    obtain ⟨c, hc, hcb⟩ := sp_top hI.qb hsp hne
    have h1 : (spP l 0).testBit (blen (a ^^^ b) - 1) = false := by
      rw [← hcb]
      exact red_clean _ _ hI.qb c hc
    have := xor_ord hab h1
    rw [Nat.xor_comm _ a, Nat.xor_comm _ b]
    exact this
  · rw [solsP_mem, List.mem_map]
    constructor
    · rintro ⟨q, hq, rfl⟩
      have hq2 := (hI.qs q).1 (hA.sp q hq)
      have hlt := Nat.xor_lt_two_pow hp hq2.1
      exact ⟨hlt, (split_iff hG hlt (by decide)).1 (by rw [sumX_xor, hs, hq2.2, Nat.xor_zero])⟩
    · rintro ⟨hx, he⟩
      have hs2 := (split_iff hG hx (by decide : 0 < 2)).2 he
      refine ⟨spP l 0 ^^^ x, (sums_mem hI.qb _).2 ((hI.qs _).2 ⟨Nat.xor_lt_two_pow hp hx, by rw [sumX_xor, hs, hs2, Nat.xor_self]⟩), ?_⟩
      rw [← Nat.xor_assoc, Nat.xor_self, Nat.zero_xor]
theorem sols_len {l : List Int} (hG : GoodG l) : (solsP l).length = 2 ^ (svP l 0).quiet.length := by
  rw [← sols_sums hG, List.length_map, (sums_all (inv_P l 0).qb).len]
theorem sols_head {l : List Int} (hG : GoodG l) : (solsP l).head? = some (spP l 0) := by
  rw [← sols_sums hG, List.head?_map, (sums_all (inv_P l 0).qb).hd, Option.map_some, Nat.xor_zero]
theorem sols_others {l : List Int} {x : Nat} (h : x ∈ solsP l) : othersP l x ∈ solsP l := by
  rw [solsP_mem] at h ⊢
  refine ⟨others_lt h.1, h.2.2, ?_⟩
  have e : othersP l (othersP l x) = x := by unfold othersP; rw [Nat.xor_assoc, Nat.xor_self, Nat.xor_zero]
  rw [e]
  exact h.2.1
end Go.Proofs.YtlohlngmagpepaaGreatM
