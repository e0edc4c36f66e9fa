/- Plain laws on paths and circles as graphs, and on what products with circles ask of a graph. No program in sight. -/
import Derived.Test.YtlohlngmagpepaaGreatM8
import Derived.Test.YtlohlngmagpepaaGreatM5
import Derived.Test.YtlohlngmagpepaaGreatM17
namespace Go.Proofs.YtlohlngmagpepaaGreatM
open Go.RowKit Go.Proofs.YtlohlngmagpepaaGreatW.PrintWords Go.Proofs.YtlohlngmagpepaaGreatW.PrintLast Go.Proofs.YtlohlngmagpepaaGreatW.PrintMore
set_option linter.unusedVariables false
set_option linter.unusedSimpArgs false
theorem toggles_bounds (l : List Int) (own : Bool) (hG : GoodG l) : ∀ x ∈ toggles l own, 0 ≤ x ∧ x < 2 ^ l.length := by
  intro x hx
  unfold toggles at hx
  obtain ⟨i, hi, rfl⟩ := List.mem_map.1 hx
  exact togg_bounds l own hG i (by have := List.mem_range'_1.1 hi; omega)
/-- The toggles as plain sets. -/
def togs (l : List Int) (own : Bool) : List Nat := (toggles l own).map Int.toNat
theorem togs_ints (l : List Int) (own : Bool) (hG : GoodG l) : toggles l own = ints (togs l own) ∧ (togs l own).length = l.length ∧ ∀ x ∈ togs l own, x < 2 ^ l.length := by
  obtain ⟨r, hr, hb⟩ := ints_of (toggles l own) (toggles_bounds l own hG)
  have e : togs l own = r := by unfold togs; rw [hr, ints_toNat]
  rw [e]
  refine ⟨hr, ?_, hb⟩
  rw [← ints_length, ← hr, toggles_length]
theorem addSets_map {α : Type} (f g : α → Nat) : ∀ l : List α, addSets (ints (l.map f)) (l.map fun x => ((g x : Nat) : Int)) = ints (l.map fun x => f x ^^^ g x)
  | [] => rfl
  | x :: l => by
    have ih := addSets_map f g l
    unfold addSets ints at ih ⊢
    simp only [List.map_cons, List.zipWith_cons_cons]
    rw [ih]
    rfl
/-- An edge more. -/
def joinL (l : List Nat) (i j : Nat) : List Nat := (l.set i (l.getD i 0 ||| 2 ^ j)).set j ((l.set i (l.getD i 0 ||| 2 ^ j)).getD j 0 ||| 2 ^ i)
theorem joinL_length (l : List Nat) (i j : Nat) : (joinL l i j).length = l.length := by simp [joinL]
theorem getD_lt {n : Nat} {l : List Nat} (h : ∀ x ∈ l, x < 2 ^ n) (i : Nat) : l.getD i 0 < 2 ^ n := by
  rw [List.getD_eq_getElem?_getD]
  cases e : l[i]? with
  | none => exact Nat.two_pow_pos n
  | some x => exact h x (List.mem_of_getElem? e)
theorem set_lt {n : Nat} {l : List Nat} (h : ∀ x ∈ l, x < 2 ^ n) (i x : Nat) (hx : x < 2 ^ n) : ∀ y ∈ l.set i x, y < 2 ^ n := fun y hy => by
  rcases List.mem_or_eq_of_mem_set hy with hy | rfl
  · exact h y hy
  · exact hx
theorem joinL_lt {n : Nat} {l : List Nat} (h : ∀ x ∈ l, x < 2 ^ n) (i j : Nat) (hi : i < n) (hj : j < n) : ∀ x ∈ joinL l i j, x < 2 ^ n := by
  have h1 := set_lt h i _ (Nat.or_lt_two_pow (getD_lt h i) (Nat.pow_lt_pow_right (by decide) hj : 2 ^ j < 2 ^ n))
  exact set_lt h1 j _ (Nat.or_lt_two_pow (getD_lt h1 j) (Nat.pow_lt_pow_right (by decide) hi))
/-- Edges i to i + 1, i + 1 to i + 2, ..: d of them. -/
def pathGo : Nat → Nat → List Nat → List Nat
  | 0, _, l => l
  | d + 1, i, l => pathGo d (i + 1) (joinL l i (i + 1))
theorem pathGo_length : ∀ (d i : Nat) (l : List Nat), (pathGo d i l).length = l.length
  | 0, _, _ => rfl
  | d + 1, i, l => (pathGo_length d (i + 1) _).trans (joinL_length l i (i + 1))
theorem pathGo_lt {n : Nat} : ∀ (d i : Nat) (l : List Nat), (∀ x ∈ l, x < 2 ^ n) → i + d < n → ∀ x ∈ pathGo d i l, x < 2 ^ n
  | 0, _, _, h, _ => h
  | d + 1, i, l, h, hd => pathGo_lt d (i + 1) _ (joinL_lt h i (i + 1) (by omega) (by omega)) (by omega)
def pathL (n : Nat) : List Nat := pathGo (n - 1) 0 (List.replicate n 0)
def circleL (n : Nat) : List Nat := joinL (pathL n) 0 (n - 1)
theorem pathL_length (n : Nat) : (pathL n).length = n := by unfold pathL; rw [pathGo_length]; simp
theorem circleL_length (n : Nat) : (circleL n).length = n := by unfold circleL; rw [joinL_length, pathL_length]
theorem zeros_lt (n k : Nat) : ∀ x ∈ List.replicate k 0, x < 2 ^ n := fun x hx => by
  rw [List.eq_of_mem_replicate hx]
  exact Nat.two_pow_pos n
theorem pathL_lt {n : Nat} (h : 1 ≤ n) : ∀ x ∈ pathL n, x < 2 ^ n := pathGo_lt _ _ _ (zeros_lt n n) (by omega)
set_option maxRecDepth 10000 in
theorem circles_good : ∀ n, n < 17 → 3 ≤ n → good (ints (circleL n)) = true := by decide +kernel
theorem circleL_good {n : Nat} (h0 : 3 ≤ n) (h1 : n ≤ 16) : GoodG (ints (circleL n)) := (good_iff _).1 (circles_good n (by omega) h0)
theorem ints_set (l : List Nat) (i x : Nat) : (ints l).set i (x : Int) = ints (l.set i x) := by unfold ints; rw [List.map_set]
theorem ints_getD (l : List Nat) (i : Nat) (h : i < l.length) : rd (ints l) (i : Int) = (l.getD i 0 : Nat) := by
  rw [ints_get l i h]
  simp [List.getD_eq_getElem?_getD, List.getElem?_eq_getElem h]
end Go.Proofs.YtlohlngmagpepaaGreatM
