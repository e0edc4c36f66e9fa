/- Plain laws on bases of sets: what is left of a set, a set put in. No program in sight. -/
import Derived.Test.YtjocpjjimhefjaaGreatM2
import Derived.Test.YtjocpjjimhefjaaGreatM4
namespace Go.Proofs.YtjocpjjimhefjaaGreatM
open Go.RowKit Go.Proofs.YtjocpjjimhefjaaGreatW.PrintWords Go.Proofs.YtjocpjjimhefjaaGreatW.PrintLast Go.Proofs.YtjocpjjimhefjaaGreatW.PrintMore
set_option linter.unusedVariables false
set_option linter.unusedSimpArgs false
def ints (l : List Nat) : List Int := l.map fun x : Nat => (x : Int)
theorem ints_length (l : List Nat) : (ints l).length = l.length := by simp [ints]
theorem ints_append (l r : List Nat) : ints (l ++ r) = ints l ++ ints r := by simp [ints]
theorem ints_get (l : List Nat) (i : Nat) (h : i < l.length) : rd (ints l) (i : Int) = (l[i] : Int) := by
  rw [rd_get (ints l) i (by rw [ints_length]; exact h)]
  simp [ints]
def redOne (s b : Nat) : Nat := if s.testBit (blen b - 1) = true then s ^^^ b else s
def red (l : List Nat) (s : Nat) : Nat := l.foldr (fun b s => redOne s b) s
structure Basis (l : List Nat) : Prop where
  pos : ∀ b ∈ l, b ≠ 0
  up : l.Pairwise (fun a b => blen a < blen b)
  clean : l.Pairwise (fun a b => b.testBit (blen a - 1) = false)
theorem Basis.tail {b : Nat} {l : List Nat} (h : Basis (b :: l)) : Basis l := ⟨fun x hx => h.pos x (List.mem_cons_of_mem _ hx), (List.pairwise_cons.1 h.up).2, (List.pairwise_cons.1 h.clean).2⟩
def putOne (t b : Nat) : Nat := if b.testBit (blen t - 1) = true then b ^^^ t else b
def putTop (l : List Nat) (t : Nat) : List Nat := l.filter (fun b => decide (blen b < blen t)) ++ [t] ++ (l.filter (fun b => decide (blen t < blen b))).map (putOne t)
def put (l : List Nat) (s : Nat) : List Nat := if red l s = 0 then l else putTop l (red l s)
end Go.Proofs.YtjocpjjimhefjaaGreatM
