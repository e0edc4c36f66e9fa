/- Plain laws on all orbits of a graph's sets: where each begins, and what it holds. No program in sight. -/
import Derived.Test.YtjocpjjimhefjaaGreatM9
namespace Go.Proofs.YtjocpjjimhefjaaGreatM
open Go.RowKit Go.Proofs.YtjocpjjimhefjaaGreatW.PrintWords Go.Proofs.YtjocpjjimhefjaaGreatW.PrintLast Go.Proofs.YtjocpjjimhefjaaGreatW.PrintMore
set_option linter.unusedVariables false
set_option linter.unusedSimpArgs false
theorem orbIn_least {mv : Nat → Nat → Nat} {s n : Nat} (P : Nat → Prop) (hP : ∀ x i, P x → i < n → P (mv x i)) (hs : P s) : ∀ (d i : Nat) (out : List Nat), i + d ≤ n → (∀ x ∈ out, P x) → ∀ x ∈ orbIn mv s d i out, P x
  | 0, _, _, _, h => h
  | d + 1, i, out, hd, h => orbIn_least P hP hs d (i + 1) _ (by omega) (fun x hx => by
    split at hx
    · exact h x hx
    · rcases List.mem_append.1 hx with hx | hx
      · exact h x hx
      · rw [List.mem_singleton.1 hx]; exact hP s i hs (by omega))
theorem orbGo_least {mv : Nat → Nat → Nat} {n : Nat} (P : Nat → Prop) (hP : ∀ x i, P x → i < n → P (mv x i)) : ∀ (f k : Nat) (out : List Nat), (∀ x ∈ out, P x) → ∀ x ∈ orbGo mv n f k out, P x
  | 0, _, _, h => h
  | f + 1, k, out, h => by
    unfold orbGo
    split
    · next e => exact orbGo_least P hP f (k + 1) _ (orbIn_least P hP (h _ (List.getElem_mem e)) n 0 out (by omega) h)
    · exact h
theorem orbL_least {mv : Nat → Nat → Nat} {n s : Nat} (P : Nat → Prop) (hs : P s) (hP : ∀ x i, P x → i < n → P (mv x i)) : ∀ x ∈ orbL mv n s, P x :=
  orbGo_least P hP _ _ _ (fun x hx => by rw [List.mem_singleton.1 hx]; exact hs)
theorem litMove_back (l : List Int) (hG : GoodG l) (s i : Nat) (hs : s < 2 ^ l.length) (hi : i < l.length) : moveOf l false (moveOf l false s i) i = s := by
  have hirr := hG.irr i hi
  have hbit : (rd l (i : Int)).toNat.testBit i = false := by
    rw [rd_getD]
    exact hirr
  have em : ∀ s, moveOf l false s i = if s.testBit i = true then s ^^^ (rd l (i : Int)).toNat else s := fun s => rfl
  rw [em s]
  cases e : s.testBit i
  · rw [if_neg (by decide), em, e, if_neg (by decide)]
  · rw [if_pos rfl, em, Nat.testBit_xor, e, hbit, if_pos (by rfl), Nat.xor_assoc, Nat.xor_self, Nat.xor_zero]
theorem mem_orbitOf (l : List Int) (hG : GoodG l) (s x : Nat) (hs : s < 2 ^ l.length) : x ∈ orbitOf l false s ↔ x ∈ orbL (moveOf l false) l.length s := by
  have ho := orbL_ok (fun s i hs hi => moveOf_lt l hG false s i hs hi) hs
  exact ((rising_perm ho).mem_iff).symm
end Go.Proofs.YtjocpjjimhefjaaGreatM
