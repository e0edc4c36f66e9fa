/- Plain laws on orbits: what moves lead to, in the order in which it is met; sorted. No program in sight. -/
import Derived.Test.YtlohlngmagpepaaGreatM6
namespace Go.Proofs.YtlohlngmagpepaaGreatM
open Go.RowKit Go.Proofs.YtlohlngmagpepaaGreatW.PrintWords Go.Proofs.YtlohlngmagpepaaGreatW.PrintLast Go.Proofs.YtlohlngmagpepaaGreatW.PrintMore
set_option linter.unusedVariables false
set_option linter.unusedSimpArgs false
/-- All moves of one set: d of them, from the i-th on. -/
def orbIn (mv : Nat → Nat → Nat) (s : Nat) : Nat → Nat → List Nat → List Nat
  | 0, _, out => out
  | d + 1, i, out => orbIn mv s d (i + 1) (if out.contains (mv s i) = true then out else out ++ [mv s i])
/-- From the k-th set that was met on. -/
def orbGo (mv : Nat → Nat → Nat) (n : Nat) : Nat → Nat → List Nat → List Nat
  | 0, _, out => out
  | f + 1, k, out => if h : k < out.length then orbGo mv n f (k + 1) (orbIn mv out[k] n 0 out) else out
def orbL (mv : Nat → Nat → Nat) (n s : Nat) : List Nat := orbGo mv n (2 ^ n) 0 [s]
structure OrbOk (N : Nat) (out : List Nat) : Prop where
  apart : out.Nodup
  low : ∀ x ∈ out, x < N
theorem length_low : ∀ (N : Nat) (l : List Nat), l.Nodup → (∀ x ∈ l, x < N) → l.length ≤ N
  | 0, l, _, h => by
    cases l with
    | nil => simp
    | cons x l => have := h x List.mem_cons_self; omega
  | N + 1, l, hd, h => by
    have ih := length_low N (l.erase N) (hd.erase N) (fun x hx => by
      have h1 := (List.Nodup.mem_erase_iff hd).1 hx
      have := h x h1.2
      have := h1.1
      omega)
    by_cases e : N ∈ l
    · rw [List.length_erase_of_mem e] at ih
      omega
    · rw [List.erase_of_not_mem e] at ih
      omega
theorem OrbOk.length {N : Nat} {out : List Nat} (h : OrbOk N out) : out.length ≤ N := length_low N out h.apart h.low
theorem OrbOk.more {N : Nat} {out : List Nat} (h : OrbOk N out) {x : Nat} (hx : x < N) : OrbOk N (if out.contains x = true then out else out ++ [x]) := by
  split
  · exact h
  · next e =>
    have hne : x ∉ out := fun hm => e (List.contains_iff_mem.2 hm)
    refine ⟨?_, fun y hy => ?_⟩
    · rw [List.nodup_append]
      exact ⟨h.apart, by simp, fun a ha b hb e2 => hne (by rw [List.mem_singleton.1 hb] at e2; rw [← e2]; exact ha)⟩
    · rcases List.mem_append.1 hy with hy | hy
      · exact h.low y hy
      · rw [List.mem_singleton.1 hy]; exact hx
theorem orbIn_ok {mv : Nat → Nat → Nat} {N s : Nat} : ∀ (d i : Nat) (out : List Nat), (∀ j, i ≤ j → j < i + d → mv s j < N) → OrbOk N out → OrbOk N (orbIn mv s d i out)
  | 0, _, _, _, h => h
  | d + 1, i, out, hm, h => orbIn_ok d (i + 1) _ (fun j h1 h2 => hm j (by omega) (by omega)) (h.more (hm i (Nat.le_refl _) (by omega)))
theorem orbIn_keeps {mv : Nat → Nat → Nat} {s : Nat} : ∀ (d i : Nat) (out : List Nat), ∃ r, orbIn mv s d i out = out ++ r
  | 0, _, out => ⟨[], by simp [orbIn]⟩
  | d + 1, i, out => by
    obtain ⟨r, hr⟩ := orbIn_keeps d (i + 1) (if out.contains (mv s i) = true then out else out ++ [mv s i])
    unfold orbIn
    rw [hr]
    split
    · exact ⟨r, rfl⟩
    · exact ⟨[mv s i] ++ r, by rw [List.append_assoc]⟩
theorem orbGo_ok {mv : Nat → Nat → Nat} {N n : Nat} (hm : ∀ s i, s < N → i < n → mv s i < N) : ∀ (f k : Nat) (out : List Nat), OrbOk N out → OrbOk N (orbGo mv n f k out)
  | 0, _, _, h => h
  | f + 1, k, out, h => by
    unfold orbGo
    split
    · next e => exact orbGo_ok hm f (k + 1) _ (orbIn_ok n 0 out (fun j _ hj => hm _ _ (h.low _ (List.getElem_mem e)) (by omega)) h)
    · exact h
theorem orbL_ok {mv : Nat → Nat → Nat} {n s : Nat} (hm : ∀ s i, s < 2 ^ n → i < n → mv s i < 2 ^ n) (hs : s < 2 ^ n) : OrbOk (2 ^ n) (orbL mv n s) :=
  orbGo_ok hm _ _ _ ⟨by simp, fun x hx => by rw [List.mem_singleton.1 hx]; exact hs⟩
theorem orbGo_keeps {mv : Nat → Nat → Nat} {n : Nat} : ∀ (f k : Nat) (out : List Nat), ∃ r, orbGo mv n f k out = out ++ r
  | 0, _, out => ⟨[], by simp [orbGo]⟩
  | f + 1, k, out => by
    unfold orbGo
    split
    · next h =>
      obtain ⟨r1, h1⟩ := orbIn_keeps (mv := mv) (s := out[k]) n 0 out
      obtain ⟨r2, h2⟩ := orbGo_keeps (mv := mv) (n := n) f (k + 1) (orbIn mv out[k] n 0 out)
      exact ⟨r1 ++ r2, by rw [h2, h1, List.append_assoc]⟩
    · exact ⟨[], by simp⟩
theorem orbL_self (mv : Nat → Nat → Nat) (n s : Nat) : s ∈ orbL mv n s := by
  obtain ⟨r, h⟩ := orbGo_keeps (mv := mv) (n := n) (2 ^ n) 0 [s]
  unfold orbL
  rw [h]
  simp
/-- The same sets, increasing. -/
def rising (N : Nat) (out : List Nat) : List Nat := (List.range N).filter fun x => out.contains x
theorem rising_perm {N : Nat} {out : List Nat} (h : OrbOk N out) : out.Perm (rising N out) := by
  refine (List.perm_ext_iff_of_nodup h.apart (List.nodup_range.filter _)).2 fun a => ?_
  rw [List.mem_filter, List.mem_range, List.contains_iff_mem]
  exact ⟨fun ha => ⟨h.low a ha, ha⟩, fun ha => ha.2⟩
theorem rising_up (N : Nat) (out : List Nat) : (rising N out).Pairwise (fun a b => a < b) := List.pairwise_lt_range.filter _
theorem ints_perm {l r : List Nat} (h : l.Perm r) : (ints l).Perm (ints r) := h.map _
theorem sort_ints {l r : List Nat} (h : l.Perm r) (hr : r.Pairwise (fun a b => a ≤ b)) : ((ints l).mergeSort fun x y => decide (x ≤ y)) = ints r := by
  have hs := List.pairwise_mergeSort (le := fun x y : Int => decide (x ≤ y)) (fun a b c h1 h2 => by simp at h1 h2 ⊢; omega) (fun a b => by simp; omega) (ints l)
  refine List.Perm.eq_of_pairwise (le := fun x y : Int => x ≤ y) (fun a b _ _ h1 h2 => Int.le_antisymm h1 h2) (hs.imp fun h => by simpa using h) ?_ ((List.mergeSort_perm _ _).trans (ints_perm h))
  unfold ints
  rw [List.pairwise_map]
  exact hr.imp fun h => by omega
theorem sort_orbit {N : Nat} {out : List Nat} (h : OrbOk N out) : ((ints out).mergeSort fun x y => decide (x ≤ y)) = ints (rising N out) :=
  sort_ints (rising_perm h) ((rising_up N out).imp fun h => Nat.le_of_lt h)
/-- Who is met, as marks. -/
def marksOf (N : Nat) (out : List Nat) : List Bool := (List.range N).map fun x => out.contains x
theorem marksOf_length (N : Nat) (out : List Nat) : (marksOf N out).length = N := by simp [marksOf]
theorem marksOf_get (N : Nat) (out : List Nat) (x : Nat) (h : x < N) : (marksOf N out).getD x false = out.contains x := by
  simp [marksOf, List.getD_eq_getElem?_getD, List.getElem?_range h]
theorem marksOf_set (N : Nat) (out : List Nat) (x : Nat) (h : x < N) : (marksOf N out).set x true = marksOf N (out ++ [x]) := by
  apply List.ext_getElem
  · simp [marksOf]
  · intro i h1 h2
    rw [List.getElem_set]
    simp only [marksOf, List.getElem_map, List.getElem_range]
    split
    · next e => subst e; simp
    · next e =>
      rw [Bool.eq_iff_iff]
      simp only [List.contains_iff_mem, List.mem_append, List.mem_singleton]
      exact ⟨fun h => .inl h, fun h => h.resolve_right fun e2 => e e2.symm⟩
end Go.Proofs.YtlohlngmagpepaaGreatM
