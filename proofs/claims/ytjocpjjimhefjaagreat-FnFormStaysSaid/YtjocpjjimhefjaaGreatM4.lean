/- Plain laws on polynomials over two elements, told as whole numbers. No program in sight. -/
import Derived.Test.YtjocpjjimhefjaaGreatM1
namespace Go.Proofs.YtjocpjjimhefjaaGreatM
open Go.RowKit Go.Proofs.YtjocpjjimhefjaaGreatW.PrintWords Go.Proofs.YtjocpjjimhefjaaGreatW.PrintLast Go.Proofs.YtjocpjjimhefjaaGreatW.PrintMore
set_option linter.unusedVariables false
set_option linter.unusedSimpArgs false
def blen (x : Nat) : Nat := if x = 0 then 0 else blen (x / 2) + 1
termination_by x
decreasing_by omega
def blk : Nat → Nat → Nat
  | 0, _ => 0
  | k + 1, x => if x = 0 then 0 else blk k (x / 2) + 1
end Go.Proofs.YtjocpjjimhefjaaGreatM
