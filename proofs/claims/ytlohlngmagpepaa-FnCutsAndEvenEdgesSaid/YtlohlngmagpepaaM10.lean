/- Plain laws on paths and circles as graphs, and on what products with circles ask of a graph. No program in sight. -/
import Derived.Test.YtlohlngmagpepaaM8
import Derived.Test.YtlohlngmagpepaaM5
import Derived.Test.YtlohlngmagpepaaM17
namespace Go.Proofs.YtlohlngmagpepaaM
open Go.RowKit Go.Proofs.YtlohlngmagpepaaW.PrintWords Go.Proofs.YtlohlngmagpepaaW.PrintLast Go.Proofs.YtlohlngmagpepaaW.PrintMore
set_option linter.unusedVariables false
set_option linter.unusedSimpArgs false
def joinL (l : List Nat) (i j : Nat) : List Nat := (l.set i (l.getD i 0 ||| 2 ^ j)).set j ((l.set i (l.getD i 0 ||| 2 ^ j)).getD j 0 ||| 2 ^ i)
theorem joinL_length (l : List Nat) (i j : Nat) : (joinL l i j).length = l.length := by simp [joinL]
theorem getD_lt {n : Nat} {l : List Nat} (h : ∀ x ∈ l, x < 2 ^ n) (i : Nat) : l.getD i 0 < 2 ^ n := by
  rw [List.getD_eq_getElem?_getD]
  cases e : l[i]? with
  | none => exact Nat.two_pow_pos n
  | some x => exact h x (List.mem_of_getElem? e)
theorem set_lt {n : Nat} {l : List Nat} (h : ∀ x ∈ l, x < 2 ^ n) (i x : Nat) (hx : x < 2 ^ n) : ∀ y ∈ l.set i x, y < 2 ^ n := fun y hy => by
  rcases List.mem_or_eq_of_mem_set hy with hy | rfl
  · exact h y hy
  · exact hx
theorem joinL_lt {n : Nat} {l : List Nat} (h : ∀ x ∈ l, x < 2 ^ n) (i j : Nat) (hi : i < n) (hj : j < n) : ∀ x ∈ joinL l i j, x < 2 ^ n := by
  have h1 := set_lt h i _ (Nat.or_lt_two_pow (getD_lt h i) (Nat.pow_lt_pow_right (by decide) hj : 2 ^ j < 2 ^ n))
  exact set_lt h1 j _ (Nat.or_lt_two_pow (getD_lt h1 j) (Nat.pow_lt_pow_right (by decide) hi))
def pathGo : Nat → Nat → List Nat → List Nat
  | 0, _, l => l
  | d + 1, i, l => pathGo d (i + 1) (joinL l i (i + 1))
theorem pathGo_length : ∀ (d i : Nat) (l : List Nat), (pathGo d i l).length = l.length
  | 0, _, _ => rfl
  | d + 1, i, l => (pathGo_length d (i + 1) _).trans (joinL_length l i (i + 1))
theorem pathGo_lt {n : Nat} : ∀ (d i : Nat) (l : List Nat), (∀ x ∈ l, x < 2 ^ n) → i + d < n → ∀ x ∈ pathGo d i l, x < 2 ^ n
  | 0, _, _, h, _ => h
  | d + 1, i, l, h, hd => pathGo_lt d (i + 1) _ (joinL_lt h i (i + 1) (by omega) (by omega)) (by omega)
def pathL (n : Nat) : List Nat := pathGo (n - 1) 0 (List.replicate n 0)
def circleL (n : Nat) : List Nat := joinL (pathL n) 0 (n - 1)
theorem pathL_length (n : Nat) : (pathL n).length = n := by unfold pathL; rw [pathGo_length]; simp
theorem zeros_lt (n k : Nat) : ∀ x ∈ List.replicate k 0, x < 2 ^ n := fun x hx => by
  rw [List.eq_of_mem_replicate hx]
  exact Nat.two_pow_pos n
theorem pathL_lt {n : Nat} (h : 1 ≤ n) : ∀ x ∈ pathL n, x < 2 ^ n := pathGo_lt _ _ _ (zeros_lt n n) (by omega)
set_option maxRecDepth 10000 in
theorem circles_good : ∀ n, n < 17 → 3 ≤ n → good (ints (circleL n)) = true := by decide +kernel
theorem circleL_good {n : Nat} (h0 : 3 ≤ n) (h1 : n ≤ 16) : GoodG (ints (circleL n)) := (good_iff _).1 (circles_good n (by omega) h0)
theorem ints_set (l : List Nat) (i x : Nat) : (ints l).set i (x : Int) = ints (l.set i x) := by unfold ints; rw [List.map_set]
theorem ints_getD (l : List Nat) (i : Nat) (h : i < l.length) : rd (ints l) (i : Int) = (l.getD i 0 : Nat) := by
  rw [ints_get l i h]
  simp [List.getD_eq_getElem?_getD, List.getElem?_eq_getElem h]
end Go.Proofs.YtlohlngmagpepaaM
