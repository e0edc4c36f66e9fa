/- Plain laws on graphs told as lists of sets. No program in sight. -/
import Derived.Test.YtlohlngmagpepaaM1
namespace Go.Proofs.YtlohlngmagpepaaM
open Go.RowKit Go.Proofs.YtlohlngmagpepaaW.PrintWords Go.Proofs.YtlohlngmagpepaaW.PrintLast Go.Proofs.YtlohlngmagpepaaW.PrintMore
set_option linter.unusedVariables false
set_option linter.unusedSimpArgs false
def inSet (n : Nat) (x : Int) : Bool := decide (0 ≤ x) && decide (x < 2 ^ n)
def okPair (l : List Int) (i j : Nat) : Bool := !(bit (l.getD i 0) (j : Int)) || (!(decide (i = j)) && bit (l.getD j 0) (i : Int))
def good (l : List Int) : Bool := decide (1 ≤ l.length ∧ l.length ≤ 16) && (l.all (inSet l.length) && ((List.range' 0 l.length).all fun i => (List.range' 0 l.length).all fun j => okPair l i j))
theorem good_eq (l : List Int) : good l = (decide (1 ≤ l.length ∧ l.length ≤ 16) && (l.all (inSet l.length) && ((List.range' 0 l.length).all fun i => (List.range' 0 l.length).all fun j => okPair l i j))) := rfl
theorem getD_get (l : List Int) (i : Nat) (h : i < l.length) : l.getD i 0 = l[i] := by simp [List.getD_eq_getElem?_getD, List.getElem?_eq_getElem h]
theorem okPair_eq (l : List Int) (i j : Nat) (hi : i < l.length) (hj : j < l.length) : okPair l i j = (!(bit l[i] (j : Int)) || (!(decide (i = j)) && bit l[j] (i : Int))) := by
  unfold okPair
  rw [getD_get l i hi, getD_get l j hj]
theorem inSet_all (l : List Int) (h : l.all (inSet l.length) = true) : ∀ x ∈ l, 0 ≤ x ∧ x < 2 ^ l.length := by
  intro x hx
  have := List.all_eq_true.1 h x hx
  simpa [inSet] using this
theorem pow16 {n : Nat} (h : n ≤ 16) : (2 : Int) ^ n ≤ 65536 := by
  have h1 : 2 ^ n ≤ 2 ^ 16 := Nat.pow_le_pow_right (by decide) h
  have h2 : ((2 ^ n : Nat) : Int) = (2 : Int) ^ n := by norm_cast
  have h3 : (2 : Nat) ^ 16 = 65536 := by decide
  omega
theorem set_bounds (l : List Int) (hn : l.length ≤ 16) (hg : ∀ x ∈ l, 0 ≤ x ∧ x < 2 ^ l.length) (i : Nat) (hi : i < l.length) : 0 ≤ l[i] ∧ l[i] < 2 ^ 63 := by
  have := hg l[i] (List.getElem_mem _)
  have := pow16 hn
  omega
structure GoodG (l : List Int) : Prop where
  one : 1 ≤ l.length
  top : l.length ≤ 16
  sets : ∀ x ∈ l, 0 ≤ x ∧ x < 2 ^ l.length
  irr : ∀ i : Nat, i < l.length → bit (l.getD i 0) (i : Int) = false
  sym : ∀ i j : Nat, i < l.length → j < l.length → bit (l.getD i 0) (j : Int) = bit (l.getD j 0) (i : Int)
theorem good_iff (l : List Int) : good l = true ↔ GoodG l := by
  unfold good
  simp only [Bool.and_eq_true, decide_eq_true_eq, List.all_eq_true, List.mem_range', Nat.one_mul, Nat.zero_add]
  constructor
  · rintro ⟨⟨h1, h2⟩, h3, h4⟩
    have pair : ∀ i j : Nat, i < l.length → j < l.length → okPair l i j = true := fun i j hi hj => h4 i ⟨i, hi, rfl⟩ j ⟨j, hj, rfl⟩
    have irr : ∀ i : Nat, i < l.length → bit (l.getD i 0) (i : Int) = false := by
      intro i hi
      have := pair i i hi hi
      simpa [okPair] using this
    refine ⟨h1, h2, fun x hx => by simpa [inSet] using h3 x hx, irr, fun i j hi hj => ?_⟩
    have a := pair i j hi hj
    have b := pair j i hj hi
    unfold okPair at a b
    by_cases e : i = j
    · subst e; rfl
    · simp only [e, decide_false, Bool.not_false, Bool.true_and, Ne.symm e] at a b
      cases x : bit (l.getD i 0) (j : Int) <;> cases y : bit (l.getD j 0) (i : Int) <;> simp_all
  · rintro ⟨h1, h2, h3, h4, h5⟩
    refine ⟨⟨h1, h2⟩, fun x hx => by simpa [inSet] using h3 x hx, ?_⟩
    rintro i ⟨i, hi, rfl⟩ j ⟨j, hj, rfl⟩
    unfold okPair
    by_cases e : i = j
    · subst e
      rw [h4 i hi]
      rfl
    · rw [← h5 i j hi hj]
      simp [e]
def okRow (l : List Int) (i : Nat) : Bool := inSet l.length (l.getD i 0) && (!(bit (l.getD i 0) (i : Int)) && (List.range' 0 i).all fun j => bit (l.getD i 0) (j : Int) == bit (l.getD j 0) (i : Int))
theorem good_rows (l : List Int) : good l = (decide (1 ≤ l.length ∧ l.length ≤ 16) && (List.range' 0 l.length).all (okRow l)) := by
  rw [Bool.eq_iff_iff, good_iff]
  simp only [Bool.and_eq_true, decide_eq_true_eq, List.all_eq_true, List.mem_range', Nat.one_mul, Nat.zero_add]
  constructor
  · rintro ⟨h1, h2, h3, h4, h5⟩
    refine ⟨⟨h1, h2⟩, ?_⟩
    rintro i ⟨i, hi, rfl⟩
    unfold okRow
    have hm := h3 (l.getD i 0) (by rw [getD_get l i hi]; exact List.getElem_mem _)
    simp only [Bool.and_eq_true, List.all_eq_true, List.mem_range', Nat.one_mul, Nat.zero_add, Bool.not_eq_true', beq_iff_eq]
    refine ⟨by simpa [inSet] using hm, h4 i hi, ?_⟩
    rintro j ⟨j, hj, rfl⟩
    exact h5 i j hi (by omega)
  · rintro ⟨⟨h1, h2⟩, h⟩
    have row : ∀ i, i < l.length → okRow l i = true := fun i hi => h i ⟨i, hi, rfl⟩
    simp only [okRow, Bool.and_eq_true, List.all_eq_true, List.mem_range', Nat.one_mul, Nat.zero_add, Bool.not_eq_true', beq_iff_eq] at row
    have low : ∀ i j, j < i → i < l.length → bit (l.getD i 0) (j : Int) = bit (l.getD j 0) (i : Int) := fun i j hj hi => (row i hi).2.2 j ⟨j, hj, rfl⟩
    refine ⟨h1, h2, ?_, fun i hi => (row i hi).2.1, fun i j hi hj => ?_⟩
    · intro x hx
      obtain ⟨i, hi, rfl⟩ := List.getElem_of_mem hx
      have := (row i hi).1
      rw [getD_get l i hi] at this
      simpa [inSet] using this
    · rcases Nat.lt_trichotomy i j with e | e | e
      · exact (low j i e hj).symm
      · subst e; rfl
      · exact low i j e hi
theorem inSet_eq' (n : Nat) (s : Int) : inSet n s = (decide (0 ≤ s) && decide (s ≤ 2 ^ n - 1)) := by
  unfold inSet
  congr 1
  rw [Bool.eq_iff_iff]
  simp only [decide_eq_true_eq]
  omega
theorem inSet_eq (n : Nat) (s : Int) : inSet n s = (decide (0 ≤ s) && decide (s ≤ 2 ^ (n : Int).toNat - 1)) := by rw [Int.toNat_natCast, inSet_eq']
def isBtn (n : Nat) (x : Int) : Bool := decide (0 ≤ x) && decide (x ≤ (n : Int) - 1)
end Go.Proofs.YtlohlngmagpepaaM
