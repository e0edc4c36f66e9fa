/- Plain laws on orbits: what moves lead to, in the order in which it is met; sorted. No program in sight. -/
import Derived.Test.YtlohlngmagpepaaM6
namespace Go.Proofs.YtlohlngmagpepaaM
open Go.RowKit Go.Proofs.YtlohlngmagpepaaW.PrintWords Go.Proofs.YtlohlngmagpepaaW.PrintLast Go.Proofs.YtlohlngmagpepaaW.PrintMore
set_option linter.unusedVariables false
set_option linter.unusedSimpArgs false
structure OrbOk (N : Nat) (out : List Nat) : Prop where
  apart : out.Nodup
  low : ∀ x ∈ out, x < N
theorem length_low : ∀ (N : Nat) (l : List Nat), l.Nodup → (∀ x ∈ l, x < N) → l.length ≤ N
  | 0, l, _, h => by
    cases l with
    | nil => simp
    | cons x l => have := h x List.mem_cons_self; omega
  | N + 1, l, hd, h => by
    have ih := length_low N (l.erase N) (hd.erase N) (fun x hx => by
      have h1 := (List.Nodup.mem_erase_iff hd).1 hx
      have := h x h1.2
      have := h1.1
      omega)
    by_cases e : N ∈ l
    · rw [List.length_erase_of_mem e] at ih
      omega
    · rw [List.erase_of_not_mem e] at ih
      omega
theorem OrbOk.length {N : Nat} {out : List Nat} (h : OrbOk N out) : out.length ≤ N := length_low N out h.apart h.low
theorem OrbOk.more {N : Nat} {out : List Nat} (h : OrbOk N out) {x : Nat} (hx : x < N) : OrbOk N (if out.contains x = true then out else out ++ [x]) := by
  split
  · exact h
  · next e =>
    have hne : x ∉ out := fun hm => e (List.contains_iff_mem.2 hm)
    refine ⟨?_, fun y hy => ?_⟩
    · rw [List.nodup_append]
      exact ⟨h.apart, by simp, fun a ha b hb e2 => hne (by rw [List.mem_singleton.1 hb] at e2; rw [← e2]; exact ha)⟩
    · rcases List.mem_append.1 hy with hy | hy
      · exact h.low y hy
      · rw [List.mem_singleton.1 hy]; exact hx
end Go.Proofs.YtlohlngmagpepaaM
