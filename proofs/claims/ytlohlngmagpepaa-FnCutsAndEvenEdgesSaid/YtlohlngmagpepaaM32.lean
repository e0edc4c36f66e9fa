/- Plain laws on lists that are a basis, as both sides look. No program in sight. -/
import Derived.Test.YtlohlngmagpepaaM31
namespace Go.Proofs.YtlohlngmagpepaaM
open Go.RowKit Go.Proofs.YtlohlngmagpepaaW.PrintWords Go.Proofs.YtlohlngmagpepaaW.PrintLast Go.Proofs.YtlohlngmagpepaaW.PrintMore
set_option linter.unusedVariables false
set_option linter.unusedSimpArgs false
def el (l : List Int) (m : Nat) : Nat := (rd l (m : Int)).toNat
theorem up_len : ∀ (q : List Nat) (m N : Nat), q.Pairwise (fun a b => blen a < blen b) → (∀ b ∈ q, m < blen b ∧ blen b ≤ N) → q.length ≤ N - m
  | [], m, N, _, _ => by simp
  | b :: r, m, N, h, hb => by
    obtain ⟨h1, h2⟩ := List.pairwise_cons.1 h
    have h3 := hb b (by simp)
    have := up_len r (blen b) N h2 fun c hc => ⟨h1 c hc, (hb c (List.mem_cons_of_mem _ hc)).2⟩
    rw [List.length_cons]
    omega
theorem basis_len {q : List Nat} (hq : Basis q) {n : Nat} (hb : ∀ b ∈ q, b < 2 ^ n) : q.length ≤ n := by
  have := up_len q 0 n hq.up fun b h => ⟨by have := blen_ne (hq.pos b h); omega, blen_le (hb b h)⟩
  omega
end Go.Proofs.YtlohlngmagpepaaM
