/- Plain laws on splits of graphs: what is to be solved can be, its solutions are the splits, in order. No program in sight. -/
import Derived.Test.YtlohlngmagpepaaM29
import Derived.Test.YtlohlngmagpepaaM31
import Derived.Test.YtlohlngmagpepaaM37
namespace Go.Proofs.YtlohlngmagpepaaM
open Go.RowKit Go.Proofs.YtlohlngmagpepaaW.PrintWords Go.Proofs.YtlohlngmagpepaaW.PrintLast Go.Proofs.YtlohlngmagpepaaW.PrintMore
set_option linter.unusedVariables false
set_option linter.unusedSimpArgs false
def duP (l : List Int) (r i : Nat) : Bool := decide ((pop (nb l i) + r) % 2 = 1)
def rowP (l : List Int) (r i : Nat) : Nat := if duP l r i = true then nb l i ||| 2 ^ i else nb l i
def dueP (l : List Int) (r : Nat) : Nat → Nat
  | 0 => 0
  | t + 1 => if duP l r t = true then dueP l r t ||| 2 ^ t else dueP l r t
def rowsP (l : List Int) (r : Nat) : List Nat := (List.range l.length).map (rowP l r)
theorem dueP_lt (l : List Int) (r : Nat) : ∀ t, dueP l r t < 2 ^ t
  | 0 => by rw [dueP]; decide
  | t + 1 => by
    have ih := dueP_lt l r t
    rw [dueP]
    split
    · exact Nat.or_lt_two_pow (Nat.lt_of_lt_of_le ih (Nat.pow_le_pow_right (by decide) (by omega))) (Nat.pow_lt_pow_right (by decide) (by omega))
    · exact Nat.lt_of_lt_of_le ih (Nat.pow_le_pow_right (by decide) (by omega))
theorem rowP_xor {l : List Int} (hG : GoodG l) (r : Nat) {i : Nat} (hi : i < l.length) : rowP l r i = nb l i ^^^ (if duP l r i = true then 2 ^ i else 0) := by
  unfold rowP
  split
  · apply Nat.eq_of_testBit_eq
    intro j
    rw [Nat.testBit_or, Nat.testBit_xor, Nat.testBit_two_pow]
    by_cases e : i = j
    · subst e
      rw [nb_irr hG hi]
      simp
    · simp [e]
  · rw [Nat.xor_zero]
theorem rowP_sym {l : List Int} (hG : GoodG l) (r : Nat) : SymF (rowP l r) l.length := by
  refine ⟨fun i hi => ?_, fun i j hi hj => ?_⟩
  · unfold rowP
    split
    · exact Nat.or_lt_two_pow (nb_lt hG hi) (Nat.pow_lt_pow_right (by decide) hi)
    · exact nb_lt hG hi
  · have hb : ∀ (a b : Nat), (if duP l r a = true then 2 ^ a else 0).testBit b = (duP l r a && decide (a = b)) := fun a b => by
      cases duP l r a
      · rw [if_neg (by decide), Nat.zero_testBit]; rfl
      · rw [if_pos rfl, Nat.testBit_two_pow]; rfl
    rw [rowP_xor hG r hi, rowP_xor hG r hj, Nat.testBit_xor, Nat.testBit_xor, nb_sym hG hi hj, hb, hb]
    by_cases e : i = j
    · subst e
      rfl
    · rw [decide_eq_false e, decide_eq_false (fun h => e h.symm), Bool.and_false, Bool.and_false]
theorem rowP_odd {l : List Int} (hG : GoodG l) (r : Nat) {i x : Nat} (hi : i < l.length) (hx : x < 2 ^ l.length) : oddm x (rowP l r i) = (oddm x (nb l i) ^^ (duP l r i && x.testBit i)) := by
  have hn : l.length ≤ 63 := by have := hG.top; omega
  rw [rowP_xor hG r hi, oddm_comm, oddm_xor hn _ _ hx, oddm_comm]
  cases duP l r i
  · rw [if_neg (by decide), oddm_zero, Bool.false_and]
  · rw [if_pos rfl, oddm_pow, Bool.true_and]
def svP (l : List Int) (r : Nat) : Sv := svOf (rowsP l r)
theorem rowsP_length (l : List Int) (r : Nat) : (rowsP l r).length = l.length := by unfold rowsP; simp
theorem rowsP_get (l : List Int) (r i : Nat) (h : i < (rowsP l r).length) : (rowsP l r)[i] = rowP l r i := by simp only [rowsP, List.getElem_map, List.getElem_range]
theorem inv_P (l : List Int) (r : Nat) : Inv (rowP l r) l.length (svP l r) := by
  have h := inv_of (f := rowP l r) (l := rowsP l r) (rowsP_get l r)
  rwa [rowsP_length] at h
theorem svP_quiet {l : List Int} (hG : GoodG l) (r : Nat) : (∀ b ∈ (svP l r).quiet, b < 2 ^ l.length) ∧ (svP l r).quiet.length ≤ l.length ∧ Basis (svP l r).quiet := by
  refine ⟨fun b hb => (((inv_P l r).qs b).1 (Sp.one hb)).1, ?_, (inv_P l r).qb⟩
  have := (inv_P l r).rq
  omega
def othersP (l : List Int) (s : Nat) : Nat := s ^^^ (2 ^ l.length - 1)
theorem others_lt {l : List Int} {s : Nat} (hs : s < 2 ^ l.length) : othersP l s < 2 ^ l.length := Nat.xor_lt_two_pow hs (by have := Nat.two_pow_pos l.length; omega)
theorem others_bit (l : List Int) (s : Nat) {i : Nat} (hi : i < l.length) : (othersP l s).testBit i = !s.testBit i := by
  unfold othersP
  rw [Nat.testBit_xor, Nat.testBit_two_pow_sub_one, decide_eq_true hi, Bool.xor_true]
theorem odd_dec (a b : Nat) : oddm a b = decide (pop (b &&& a) % 2 = 1) := by rw [oddm_comm]; rfl
theorem sums_mono : ∀ (q o : List Nat) (x : Nat), x ∈ o → x ∈ sumsGo o q
  | [], o, x, h => h
  | b :: q, o, x, h => sums_mono q _ x (List.mem_append_left _ h)
theorem sums_shut {c : Nat} : ∀ (q o : List Nat), (∀ x ∈ o, x ^^^ c ∈ o) → ∀ x ∈ sumsGo o q, x ^^^ c ∈ sumsGo o q
  | [], o, h => h
  | b :: q, o, h => sums_shut q _ fun x hx => by
    rcases List.mem_append.1 hx with hx | hx
    · exact List.mem_append_left _ (h x hx)
    · obtain ⟨z, hz, rfl⟩ := List.mem_map.1 hx
      exact List.mem_append_right _ (List.mem_map.2 ⟨z ^^^ c, h z hz, by rw [Nat.xor_assoc, Nat.xor_comm c b, ← Nat.xor_assoc]⟩)
theorem sums_has {c : Nat} : ∀ (q o : List Nat), c ∈ q → ∀ x ∈ sumsGo o q, x ^^^ c ∈ sumsGo o q
  | [], o, h => by cases h
  | b :: q, o, h => by
    rcases List.mem_cons.1 h with rfl | h
    · refine sums_shut q _ fun x hx => ?_
      rcases List.mem_append.1 hx with hx | hx
      · exact List.mem_append_right _ (List.mem_map.2 ⟨x, hx, rfl⟩)
      · obtain ⟨z, hz, rfl⟩ := List.mem_map.1 hx
        rw [Nat.xor_assoc, Nat.xor_self, Nat.xor_zero]
        exact List.mem_append_left _ hz
    · exact sums_has q _ h
theorem sums_mem {q : List Nat} (hq : Basis q) (x : Nat) : x ∈ sums q ↔ Sp q x := by
  refine ⟨(sums_all hq).sp x, ?_⟩
  rintro ⟨c, hc, rfl⟩
  induction c with
  | nil => exact sums_mono q [0] 0 (List.mem_singleton.2 rfl)
  | cons b c ih =>
    have h1 := sums_has q [0] (hc b List.mem_cons_self) _ (ih fun z hz => hc z (List.mem_cons_of_mem _ hz))
    have e : xs (b :: c) = xs c ^^^ b := by
      first
        | rfl
        | (show b ^^^ xs c = _; exact Nat.xor_comm _ _)
    rw [e]
    exact h1
theorem up_ext : ∀ {a b : List Nat}, a.Pairwise (fun x y => x < y) → b.Pairwise (fun x y => x < y) → (∀ x, x ∈ a ↔ x ∈ b) → a = b
  | [], [], _, _, _ => rfl
  | [], y :: b, _, _, h => by cases (h y).2 List.mem_cons_self
  | x :: a, [], _, _, h => by cases (h x).1 List.mem_cons_self
  | x :: a, y :: b, ha, hb, h => by
    rw [List.pairwise_cons] at ha hb
    have e : x = y := by
      rcases List.mem_cons.1 ((h x).1 List.mem_cons_self) with e | h1
      · exact e
      · rcases List.mem_cons.1 ((h y).2 List.mem_cons_self) with e | h2
        · exact e.symm
        · have := hb.1 x h1
          have := ha.1 y h2
          omega
    subst e
    rw [up_ext ha.2 hb.2 fun z => ?_]
    constructor
    · intro hz
      rcases List.mem_cons.1 ((h z).1 (List.mem_cons_of_mem _ hz)) with e | h1
      · have := ha.1 z hz
        omega
      · exact h1
    · intro hz
      rcases List.mem_cons.1 ((h z).2 (List.mem_cons_of_mem _ hz)) with e | h1
      · have := hb.1 z hz
        omega
      · exact h1
theorem range_up (n : Nat) : (List.range n).Pairwise (fun x y => x < y) := List.pairwise_lt_range
end Go.Proofs.YtlohlngmagpepaaM
