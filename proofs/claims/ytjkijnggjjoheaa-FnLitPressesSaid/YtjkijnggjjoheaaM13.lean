/- Plain laws on sizes put in order, one by one. No program in sight. -/
import Derived.Test.YtjkijnggjjoheaaM12
namespace Go.Proofs.YtjkijnggjjoheaaM
open Go.RowKit Go.Proofs.YtjkijnggjjoheaaW.PrintWords Go.Proofs.YtjkijnggjjoheaaW.PrintLast Go.Proofs.YtjkijnggjjoheaaW.PrintMore
set_option linter.unusedVariables false
set_option linter.unusedSimpArgs false
/-- How many of the first ones are no greater: from the k-th on. -/
def slotOf (n : Nat) : List Nat → Nat
  | [] => 0
  | x :: r => if x ≤ n then slotOf n r + 1 else 0
theorem slotOf_cons (n x : Nat) (r : List Nat) : slotOf n (x :: r) = if x ≤ n then slotOf n r + 1 else 0 := rfl
theorem slotOf_le (n : Nat) : ∀ l : List Nat, slotOf n l ≤ l.length
  | [] => Nat.le_refl _
  | x :: r => by
    unfold slotOf
    have := slotOf_le n r
    split
    · rw [List.length_cons]; omega
    · exact Nat.zero_le _
def slotIn (n : Nat) (l : List Nat) : List Nat := l.take (slotOf n l) ++ [n] ++ l.drop (slotOf n l)
theorem slotIn_perm (n : Nat) (l : List Nat) : (slotIn n l).Perm (l ++ [n]) := by
  unfold slotIn
  have h : (l.take (slotOf n l) ++ ([n] ++ l.drop (slotOf n l))).Perm (l.take (slotOf n l) ++ (l.drop (slotOf n l) ++ [n])) := List.Perm.append_left _ List.perm_append_comm
  rw [← List.append_assoc, ← List.append_assoc, List.take_append_drop] at h
  exact h
theorem slotIn_length (n : Nat) (l : List Nat) : (slotIn n l).length = l.length + 1 := by
  rw [(slotIn_perm n l).length_eq]
  simp
theorem slotIn_up (n : Nat) : ∀ l : List Nat, l.Pairwise (fun a b => a ≤ b) → (slotIn n l).Pairwise (fun a b => a ≤ b)
  | [], _ => by simp [slotIn, slotOf]
  | x :: r, h => by
    obtain ⟨h1, h2⟩ := List.pairwise_cons.1 h
    have ih := slotIn_up n r h2
    unfold slotIn slotOf
    by_cases e : x ≤ n
    · rw [if_pos e, List.take_succ_cons, List.drop_succ_cons, List.cons_append, List.cons_append, List.pairwise_cons]
      refine ⟨fun y hy => ?_, ih⟩
      have hy2 : y ∈ r ++ [n] := (slotIn_perm n r).mem_iff.1 hy
      rcases List.mem_append.1 hy2 with hy2 | hy2
      · exact h1 y hy2
      · rw [List.mem_singleton.1 hy2]; exact e
    · rw [if_neg e, List.take_zero, List.drop_zero, List.nil_append, List.singleton_append, List.pairwise_cons]
      refine ⟨fun y hy => ?_, h⟩
      rcases List.mem_cons.1 hy with rfl | hy
      · omega
      · have := h1 y hy; omega
def slots (o : List Nat) (l : List Nat) : List Nat := l.foldl (fun o n => slotIn n o) o
theorem slots_up : ∀ (l o : List Nat), o.Pairwise (fun a b => a ≤ b) → (slots o l).Pairwise (fun a b => a ≤ b)
  | [], _, h => h
  | n :: l, o, h => slots_up l (slotIn n o) (slotIn_up n o h)
theorem slots_perm : ∀ (l o : List Nat), (slots o l).Perm (o ++ l)
  | [], o => by simp [slots]
  | n :: l, o => by
    have h := (slots_perm l (slotIn n o)).trans (List.Perm.append_right l (slotIn_perm n o))
    rw [List.append_assoc, List.singleton_append] at h
    exact h
/-- The sizes in order. -/
def sortedSizes (l : List Int) : List Nat := slots [] (orbitSizes l)
theorem sortedSizes_length (l : List Int) : (sortedSizes l).length ≤ 2 ^ l.length := by
  have h1 := (slots_perm (orbitSizes l) []).length_eq
  have h2 := starts_length l
  unfold sortedSizes
  rw [h1]
  unfold orbitSizes
  simp
  exact h2
theorem sort_sizes (l : List Int) : ((ints (orbitSizes l)).mergeSort fun x y => decide (x ≤ y)) = ints (sortedSizes l) := by
  have hp := slots_perm (orbitSizes l) []
  rw [List.nil_append] at hp
  exact sort_ints hp.symm (slots_up _ _ List.Pairwise.nil)
end Go.Proofs.YtjkijnggjjoheaaM
