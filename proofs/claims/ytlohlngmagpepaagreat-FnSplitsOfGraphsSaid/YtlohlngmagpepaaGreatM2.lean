/- Plain laws on graphs told as lists of sets. No program in sight. -/
import Derived.Test.YtlohlngmagpepaaGreatM1
namespace Go.Proofs.YtlohlngmagpepaaGreatM
open Go.RowKit Go.Proofs.YtlohlngmagpepaaGreatW.PrintWords Go.Proofs.YtlohlngmagpepaaGreatW.PrintLast Go.Proofs.YtlohlngmagpepaaGreatW.PrintMore
set_option linter.unusedVariables false
set_option linter.unusedSimpArgs false
/-- Is x a set of so many? -/
def inSet (n : Nat) (x : Int) : Bool := decide (0 ≤ x) && decide (x < 2 ^ n)
/-- If j is in the set of i, then they are two, and i is in the set of j. -/
def okPair (l : List Int) (i j : Nat) : Bool := !(bit (l.getD i 0) (j : Int)) || (!(decide (i = j)) && bit (l.getD j 0) (i : Int))
def good (l : List Int) : Bool := decide (1 ≤ l.length ∧ l.length ≤ 16) && (l.all (inSet l.length) && ((List.range' 0 l.length).all fun i => (List.range' 0 l.length).all fun j => okPair l i j))
theorem good_eq (l : List Int) : good l = (decide (1 ≤ l.length ∧ l.length ≤ 16) && (l.all (inSet l.length) && ((List.range' 0 l.length).all fun i => (List.range' 0 l.length).all fun j => okPair l i j))) := rfl
theorem getD_get (l : List Int) (i : Nat) (h : i < l.length) : l.getD i 0 = l[i] := by simp [List.getD_eq_getElem?_getD, List.getElem?_eq_getElem h]
theorem okPair_eq (l : List Int) (i j : Nat) (hi : i < l.length) (hj : j < l.length) : okPair l i j = (!(bit l[i] (j : Int)) || (!(decide (i = j)) && bit l[j] (i : Int))) := by
  unfold okPair
  rw [getD_get l i hi, getD_get l j hj]
theorem inSet_all (l : List Int) (h : l.all (inSet l.length) = true) : ∀ x ∈ l, 0 ≤ x ∧ x < 2 ^ l.length := by
  intro x hx
  have := List.all_eq_true.1 h x hx
  simpa [inSet] using this
theorem pow16 {n : Nat} (h : n ≤ 16) : (2 : Int) ^ n ≤ 65536 := by
  have h1 : 2 ^ n ≤ 2 ^ 16 := Nat.pow_le_pow_right (by decide) h
  have h2 : ((2 ^ n : Nat) : Int) = (2 : Int) ^ n := by norm_cast
  have h3 : (2 : Nat) ^ 16 = 65536 := by decide
  omega
theorem set_bounds (l : List Int) (hn : l.length ≤ 16) (hg : ∀ x ∈ l, 0 ≤ x ∧ x < 2 ^ l.length) (i : Nat) (hi : i < l.length) : 0 ≤ l[i] ∧ l[i] < 2 ^ 63 := by
  have := hg l[i] (List.getElem_mem _)
  have := pow16 hn
  omega
/-- What a good graph is. -/
structure GoodG (l : List Int) : Prop where
  one : 1 ≤ l.length
  top : l.length ≤ 16
  sets : ∀ x ∈ l, 0 ≤ x ∧ x < 2 ^ l.length
  irr : ∀ i : Nat, i < l.length → bit (l.getD i 0) (i : Int) = false
  sym : ∀ i j : Nat, i < l.length → j < l.length → bit (l.getD i 0) (j : Int) = bit (l.getD j 0) (i : Int)
theorem good_iff (l : List Int) : good l = true ↔ GoodG l := by
  unfold good
  simp only [Bool.and_eq_true, decide_eq_true_eq, List.all_eq_true, List.mem_range', Nat.one_mul, Nat.zero_add]
  constructor
  · rintro ⟨⟨h1, h2⟩, h3, h4⟩
    have pair : ∀ i j : Nat, i < l.length → j < l.length → okPair l i j = true := fun i j hi hj => h4 i ⟨i, hi, rfl⟩ j ⟨j, hj, rfl⟩
    have irr : ∀ i : Nat, i < l.length → bit (l.getD i 0) (i : Int) = false := by
      intro i hi
      have := pair i i hi hi
      simpa [okPair] using this
    refine ⟨h1, h2, fun x hx => by simpa [inSet] using h3 x hx, irr, fun i j hi hj => ?_⟩
    have a := pair i j hi hj
    have b := pair j i hj hi
    unfold okPair at a b
    by_cases e : i = j
    · subst e; rfl
    · simp only [e, decide_false, Bool.not_false, Bool.true_and, Ne.symm e] at a b
      cases x : bit (l.getD i 0) (j : Int) <;> cases y : bit (l.getD j 0) (i : Int) <;> simp_all
  · rintro ⟨h1, h2, h3, h4, h5⟩
    refine ⟨⟨h1, h2⟩, fun x hx => by simpa [inSet] using h3 x hx, ?_⟩
    rintro i ⟨i, hi, rfl⟩ j ⟨j, hj, rfl⟩
    unfold okPair
    by_cases e : i = j
    · subst e
      rw [h4 i hi]
      rfl
    · rw [← h5 i j hi hj]
      simp [e]
/-- A row, as it is looked at with those before it. -/
def okRow (l : List Int) (i : Nat) : Bool := inSet l.length (l.getD i 0) && (!(bit (l.getD i 0) (i : Int)) && (List.range' 0 i).all fun j => bit (l.getD i 0) (j : Int) == bit (l.getD j 0) (i : Int))
theorem good_rows (l : List Int) : good l = (decide (1 ≤ l.length ∧ l.length ≤ 16) && (List.range' 0 l.length).all (okRow l)) := by
  rw [Bool.eq_iff_iff, good_iff]
  simp only [Bool.and_eq_true, decide_eq_true_eq, List.all_eq_true, List.mem_range', Nat.one_mul, Nat.zero_add]
  constructor
  · rintro ⟨h1, h2, h3, h4, h5⟩
    refine ⟨⟨h1, h2⟩, ?_⟩
    rintro i ⟨i, hi, rfl⟩
    unfold okRow
    have hm := h3 (l.getD i 0) (by rw [getD_get l i hi]; exact List.getElem_mem _)
    simp only [Bool.and_eq_true, List.all_eq_true, List.mem_range', Nat.one_mul, Nat.zero_add, Bool.not_eq_true', beq_iff_eq]
    refine ⟨by simpa [inSet] using hm, h4 i hi, ?_⟩
    rintro j ⟨j, hj, rfl⟩
    exact h5 i j hi (by omega)
  · rintro ⟨⟨h1, h2⟩, h⟩
    have row : ∀ i, i < l.length → okRow l i = true := fun i hi => h i ⟨i, hi, rfl⟩
    simp only [okRow, Bool.and_eq_true, List.all_eq_true, List.mem_range', Nat.one_mul, Nat.zero_add, Bool.not_eq_true', beq_iff_eq] at row
    have low : ∀ i j, j < i → i < l.length → bit (l.getD i 0) (j : Int) = bit (l.getD j 0) (i : Int) := fun i j hj hi => (row i hi).2.2 j ⟨j, hj, rfl⟩
    refine ⟨h1, h2, ?_, fun i hi => (row i hi).2.1, fun i j hi hj => ?_⟩
    · intro x hx
      obtain ⟨i, hi, rfl⟩ := List.getElem_of_mem hx
      have := (row i hi).1
      rw [getD_get l i hi] at this
      simpa [inSet] using this
    · rcases Nat.lt_trichotomy i j with e | e | e
      · exact (low j i e hj).symm
      · subst e; rfl
      · exact low i j e hi
theorem inSet_eq' (n : Nat) (s : Int) : inSet n s = (decide (0 ≤ s) && decide (s ≤ 2 ^ n - 1)) := by
  unfold inSet
  congr 1
  rw [Bool.eq_iff_iff]
  simp only [decide_eq_true_eq]
  omega
theorem inSet_eq (n : Nat) (s : Int) : inSet n s = (decide (0 ≤ s) && decide (s ≤ 2 ^ (n : Int).toNat - 1)) := by rw [Int.toNat_natCast, inSet_eq']
/-- Is x one of so many buttons? -/
def isBtn (n : Nat) (x : Int) : Bool := decide (0 ≤ x) && decide (x ≤ (n : Int) - 1)
theorem btn_all {n : Nat} {w : List Int} (h : w.all (isBtn n) = true) : ∀ x ∈ w, 0 ≤ x ∧ x < n := by
  intro x hx
  have := List.all_eq_true.1 h x hx
  simp only [isBtn, Bool.and_eq_true, decide_eq_true_eq] at this
  omega
/-- Lit presses, in order. -/
def litGo (l : List Int) (s : Int) : List Int → Int × Bool
  | [] => (s, true)
  | i :: w => if bit s i = true then litGo l ((s.toNat ^^^ (rd l i).toNat : Nat) : Int) w else (0, false)
def litWord (l : List Int) (s : Int) (w : List Int) : Int × Bool := if (good l && decide (l.length ≤ 9) && inSet l.length s) = true then (if (decide (w.length ≤ 200) && w.all (isBtn l.length)) = true then litGo l s w else (0, false)) else (0, false)
/-- a, a + 1, .. -/
def marks (n : Nat) (a : Int) : List Int := (List.range n).map fun (j : Nat) => a + (j : Int)
theorem marks_length (n : Nat) (a : Int) : (marks n a).length = n := by simp [marks]
/-- Is a list a map? -/
def goodMap (m : List Int) : Bool := decide (1 ≤ m.length ∧ m.length ≤ 16) && m.all (inSet m.length)
theorem goodMap_sets {m : List Int} (h : goodMap m = true) : 1 ≤ m.length ∧ m.length ≤ 16 ∧ ∀ x ∈ m, 0 ≤ x ∧ x < 2 ^ m.length := by
  unfold goodMap at h
  simp only [Bool.and_eq_true, decide_eq_true_eq] at h
  exact ⟨h.1.1, h.1.2, inSet_all m h.2⟩
def applyGo (s : Int) (o : Int) : Nat → List Int → Int
  | _, [] => o
  | i, x :: r => if bit s (i : Int) = true then applyGo s ((o.toNat ^^^ x.toNat : Nat) : Int) (i + 1) r else applyGo s o (i + 1) r
/-- The set to which a map takes a set. -/
def applyMap (m : List Int) (s : Int) : Int := applyGo s 0 0 m
theorem applyGo_bounds (s : Int) (n : Nat) : ∀ (r : List Int) (i : Nat) (o : Int), (∀ x ∈ r, 0 ≤ x ∧ x < 2 ^ n) → 0 ≤ o → o < 2 ^ n → 0 ≤ applyGo s o i r ∧ applyGo s o i r < 2 ^ n
  | [], i, o, _, h0, h1 => ⟨h0, h1⟩
  | x :: r, i, o, h, h0, h1 => by
    have hx := h x (List.mem_cons_self)
    have hr : ∀ y ∈ r, 0 ≤ y ∧ y < 2 ^ n := fun y hy => h y (List.mem_cons_of_mem _ hy)
    unfold applyGo
    split
    · exact applyGo_bounds s n r (i + 1) _ hr (by omega) (xor_lt h1 hx.2 h0 hx.1)
    · exact applyGo_bounds s n r (i + 1) o hr h0 h1
theorem applyMap_bounds (m : List Int) (s : Int) (n : Nat) (h : ∀ x ∈ m, 0 ≤ x ∧ x < 2 ^ n) : 0 ≤ applyMap m s ∧ applyMap m s < 2 ^ n :=
  applyGo_bounds s n m 0 0 h (by omega) (Int.pow_pos (by decide))
/-- Sums of sets, place by place. -/
def addSets (a b : List Int) : List Int := List.zipWith (fun (x y : Int) => ((x.toNat ^^^ y.toNat : Nat) : Int)) a b
/-- The first i places are summed. -/
def addTo (i : Nat) (a b : List Int) : List Int := addSets (a.take i) (b.take i) ++ a.drop i
theorem addTo_zero (a b : List Int) : addTo 0 a b = a := by simp [addTo, addSets]
theorem addTo_all (a b : List Int) (h : a.length = b.length) : addTo a.length a b = addSets a b := by
  unfold addTo
  rw [List.take_length, List.drop_length, List.append_nil, h, List.take_length]
theorem addTo_length (a b : List Int) (i : Nat) (h : i ≤ b.length) : (addTo i a b).length = a.length := by simp [addTo, addSets]; omega
theorem addSets_snoc (a b : List Int) (i : Nat) (h : i < a.length) (h2 : i < b.length) : addSets (a.take i) (b.take i) ++ [((a[i].toNat ^^^ b[i].toNat : Nat) : Int)] = addSets (a.take (i + 1)) (b.take (i + 1)) := by
  unfold addSets
  rw [List.take_succ_eq_append_getElem h, List.take_succ_eq_append_getElem h2, List.zipWith_append (by simp; omega)]
  rfl
theorem addTo_get (a b : List Int) (i : Nat) (h : i < a.length) (hab : a.length = b.length) : (addTo i a b)[i]'(by rw [addTo_length a b i (by omega)]; exact h) = a[i] := by
  unfold addTo
  rw [List.getElem_append_right (by simp [addSets]; omega)]
  simp [addSets]
  congr 1
  omega
theorem addTo_succ (a b : List Int) (i : Nat) (h : i < a.length) (hab : a.length = b.length) : (addTo i a b).set i ((a[i].toNat ^^^ b[i].toNat : Nat) : Int) = addTo (i + 1) a b := by
  have hl : (addSets (a.take i) (b.take i)).length = i := by simp [addSets]; omega
  unfold addTo
  rw [← addSets_snoc a b i h (by omega), drop_cons a i h, List.set_append_right _ _ (by omega), hl, Nat.sub_self, List.set_cons_zero, List.append_assoc]
  rfl
theorem addSets_length (a b : List Int) : (addSets a b).length = min a.length b.length := by simp [addSets]
/-- Two results alike; two flags alike: what a law says of the first ones, the arguments and the second ones. -/
theorem addSets_bounds (n : Nat) : ∀ (a b : List Int), (∀ x ∈ a, 0 ≤ x ∧ x < 2 ^ n) → (∀ x ∈ b, 0 ≤ x ∧ x < 2 ^ n) → ∀ z ∈ addSets a b, 0 ≤ z ∧ z < 2 ^ n
  | [], b, _, _, z, hz => by simp [addSets] at hz
  | a :: as, [], _, _, z, hz => by simp [addSets] at hz
  | x :: as, y :: bs, ha, hb, z, hz => by
    have hx := ha x List.mem_cons_self
    have hy := hb y List.mem_cons_self
    unfold addSets at hz
    rw [List.zipWith_cons_cons, List.mem_cons] at hz
    rcases hz with rfl | hz
    · exact ⟨by omega, xor_lt hx.2 hy.2 hx.1 hy.1⟩
    · exact addSets_bounds n as bs (fun w hw => ha w (List.mem_cons_of_mem _ hw)) (fun w hw => hb w (List.mem_cons_of_mem _ hw)) z hz
/-- What a button toggles. -/
def togg (l : List Int) (own : Bool) (i : Nat) : Int := if own = true then (((rd l (i : Int)).toNat ||| 2 ^ i : Nat) : Int) else rd l (i : Int)
def toggles (l : List Int) (own : Bool) : List Int := (List.range' 0 l.length).map (togg l own)
theorem toggles_length (l : List Int) (own : Bool) : (toggles l own).length = l.length := by simp [toggles]
/-- The buttons from i on, so many, whose lit press changes the lights. -/
def moves (l : List Int) (s : Int) : Nat → Nat → List Int
  | _, 0 => []
  | i, d + 1 => if bit s (i : Int) = true ∧ rd l (i : Int) ≠ 0 then (i : Int) :: moves l s (i + 1) d else moves l s (i + 1) d
theorem moves_length (l : List Int) (s : Int) : ∀ (d i : Nat), (moves l s i d).length ≤ d
  | 0, i => by simp [moves]
  | d + 1, i => by
    unfold moves
    have := moves_length l s d (i + 1)
    split
    · simp; omega
    · omega
end Go.Proofs.YtlohlngmagpepaaGreatM
