/-
  No cell of these rows narrows 'for every input' (looked for: loops, veiled, ifaces, maps, wideKeys, modest, calm, conditions, laid).
  DERIVED. THE GIVEN ROWS OF THIS SEAT. 4 by the template 'for every input the law returns true; each argument reads behind the call as it read before'; 0 by the template 'total and deterministic' (their statements: YtlioggjncgfioaaTotals.lean).
  GIVEN WITH THE SEED: the statements are not yours to turn. If you find one false, say at which input.
  Laid BY PROGRAM, IN A SANDBOX (cutbox-rows.mjs): the forced cells as the released guide's own fill.sh prints them over the translation 11ddfdc7409c1092… (all of the seat's roots in one cut). By AI agents, Wed Nov 11 2026. No macro, syntax, notation, axiom, sorry.
-/
import Derived.Test.YtlioggjncgfioaaChecked
import GoSem.Claim
import GoSem.ClaimJoined
import GoSem.ClaimMapViews
import Derived.JoinedTies
import Derived.KernelRfl
namespace Go.Proofs.Ytlioggjncgfioaa
/- THE CELL 'sum', in the pinned program and in every row, IS THE sha256 OF THE DUMP (.gsa) THAT YtlioggjncgfioaaProg.lean LOADS. Nothing in Lean hashes anything: it is a label: what it is worth is what the hold of that sum in a sandbox is worth. -/
noncomputable def Try.pinned : Pinned := { name := "ytlioggjncgfioaa", sum := "11ddfdc7409c1092770f59b2752faab05aae13d19ccd884f20584711358dfd82", checked := Try.checked }
namespace Rows
def none {H : Type} : Left H := { results := [], args := [] }

/-- 'laws.FnPathsAndCircles': WHATEVER THE INPUT: true; the input reads as it did. -/
def fnPathsAndCirclesSpec : ChangeSpec := { name := "fnPathsAndCircles", fn := fun _ => fun
  | [d1, d2] => { results := [.lit (.bool true)], args := [d1, d2] }
  | _ => none }
def fnPathsAndCirclesRow : OpenClaim := { program := "ytlioggjncgfioaa", sum := "11ddfdc7409c1092770f59b2752faab05aae13d19ccd884f20584711358dfd82", func := "loop.example/g01146/laws.FnPathsAndCircles", spec := "fnPathsAndCircles", unfollowed := true, recurses := true, apart := false }
def FnPathsAndCirclesSaid : Prop := fnPathsAndCirclesRow.holds Try.pinned (OpenSpec.ofChange fnPathsAndCirclesSpec)

/-- ITS FALSE NEIGHBOUR: 'it returns false'. Refute it at one input. -/
def fnPathsAndCirclesWrong : ChangeSpec := { name := "fnPathsAndCircles", fn := fun _ => fun
  | [d1, d2] => { results := [.lit (.bool false)], args := [d1, d2] }
  | _ => none }
def FnPathsAndCirclesWrongFalsely : Prop := fnPathsAndCirclesRow.holds Try.pinned (OpenSpec.ofChange fnPathsAndCirclesWrong)

/-- 'laws.FnAllOnSolved': WHATEVER THE INPUT: true; the input reads as it did. -/
def fnAllOnSolvedSpec : ChangeSpec := { name := "fnAllOnSolved", fn := fun _ => fun
  | [d1, d2] => { results := [.lit (.bool true)], args := [d1, d2] }
  | _ => none }
def fnAllOnSolvedRow : OpenClaim := { program := "ytlioggjncgfioaa", sum := "11ddfdc7409c1092770f59b2752faab05aae13d19ccd884f20584711358dfd82", func := "loop.example/g01146/laws.FnAllOnSolved", spec := "fnAllOnSolved", unfollowed := true, recurses := true, apart := false }
def FnAllOnSolvedSaid : Prop := fnAllOnSolvedRow.holds Try.pinned (OpenSpec.ofChange fnAllOnSolvedSpec)

/-- ITS FALSE NEIGHBOUR: 'it returns false'. Refute it at one input. -/
def fnAllOnSolvedWrong : ChangeSpec := { name := "fnAllOnSolved", fn := fun _ => fun
  | [d1, d2] => { results := [.lit (.bool false)], args := [d1, d2] }
  | _ => none }
def FnAllOnSolvedWrongFalsely : Prop := fnAllOnSolvedRow.holds Try.pinned (OpenSpec.ofChange fnAllOnSolvedWrong)

/-- 'laws.FnSolvedOrRefused': WHATEVER THE INPUT: true; the input reads as it did. -/
def fnSolvedOrRefusedSpec : ChangeSpec := { name := "fnSolvedOrRefused", fn := fun _ => fun
  | [d1, d2] => { results := [.lit (.bool true)], args := [d1, d2] }
  | _ => none }
def fnSolvedOrRefusedRow : OpenClaim := { program := "ytlioggjncgfioaa", sum := "11ddfdc7409c1092770f59b2752faab05aae13d19ccd884f20584711358dfd82", func := "loop.example/g01146/laws.FnSolvedOrRefused", spec := "fnSolvedOrRefused", unfollowed := true, recurses := true, apart := false }
def FnSolvedOrRefusedSaid : Prop := fnSolvedOrRefusedRow.holds Try.pinned (OpenSpec.ofChange fnSolvedOrRefusedSpec)

/-- ITS FALSE NEIGHBOUR: 'it returns false'. Refute it at one input. -/
def fnSolvedOrRefusedWrong : ChangeSpec := { name := "fnSolvedOrRefused", fn := fun _ => fun
  | [d1, d2] => { results := [.lit (.bool false)], args := [d1, d2] }
  | _ => none }
def FnSolvedOrRefusedWrongFalsely : Prop := fnSolvedOrRefusedRow.holds Try.pinned (OpenSpec.ofChange fnSolvedOrRefusedWrong)

/-- 'laws.FnOddDominating': WHATEVER THE INPUT: true; the input reads as it did. -/
def fnOddDominatingSpec : ChangeSpec := { name := "fnOddDominating", fn := fun _ => fun
  | [d1, d2] => { results := [.lit (.bool true)], args := [d1, d2] }
  | _ => none }
def fnOddDominatingRow : OpenClaim := { program := "ytlioggjncgfioaa", sum := "11ddfdc7409c1092770f59b2752faab05aae13d19ccd884f20584711358dfd82", func := "loop.example/g01146/laws.FnOddDominating", spec := "fnOddDominating", unfollowed := true, recurses := true, apart := false }
def FnOddDominatingSaid : Prop := fnOddDominatingRow.holds Try.pinned (OpenSpec.ofChange fnOddDominatingSpec)

/-- ITS FALSE NEIGHBOUR: 'it returns false'. Refute it at one input. -/
def fnOddDominatingWrong : ChangeSpec := { name := "fnOddDominating", fn := fun _ => fun
  | [d1, d2] => { results := [.lit (.bool false)], args := [d1, d2] }
  | _ => none }
def FnOddDominatingWrongFalsely : Prop := fnOddDominatingRow.holds Try.pinned (OpenSpec.ofChange fnOddDominatingWrong)

/- THE SECOND FORM. 'bulk': how many values and letters a reading holds, each counted each time it is reached (what is shared counts as often as it is met; a slice's spare places count too). A statement '..UptoSaid' is the law's where the arguments, and the package variables that the reading takes, are together of bulk at most 1048576: NARROWER than '..Said'. Prove '..Said' where nothing that the law and all that it calls make is longer than what came in: it says more and counts as full. Else prove '..UptoSaid'. A law counts once. -/
mutual
def uptoBulk {H : Type} : DataW H → Nat
  | .lit (.string bytes) => bytes.length + 1
  | .lit _ => 1
  | .nil => 1
  | .ptr d => uptoBulk d + 1
  | .slice elems spare => uptoBulkAll elems + uptoBulkAll spare + 1
  | .agg parts => uptoBulkAll parts + 1
  | .iface _ d => uptoBulk d + 1
  | .map entries => uptoBulkEntries entries + 1
  | .held _ => 1
def uptoBulkAll {H : Type} : List (DataW H) → Nat
  | [] => 0
  | d :: r => uptoBulk d + uptoBulkAll r
def uptoBulkEntries {H : Type} : List (Lit × DataW H) → Nat
  | [] => 0
  | x :: r => uptoBulkEntry x + uptoBulkEntries r
def uptoBulkEntry {H : Type} : Lit × DataW H → Nat
  | (.string bytes, d) => bytes.length + uptoBulk d + 1
  | (_, d) => uptoBulk d + 1
 end
def uptoSmall : (H : Type) → List (DataW H) → Bool := fun _ ds => decide (uptoBulkAll ds ≤ 1048576)
def OpenSpec.upto (s : _root_.Go.ChangeSpec) : _root_.Go.OpenSpec := { _root_.Go.OpenSpec.ofChange s with cond := some uptoSmall }

/-- 'laws.FnPathsAndCircles', WHERE WHAT IT READS IS OF BULK AT MOST 1048576: true; the input reads as it did. -/
def fnPathsAndCirclesUptoRow : OpenClaim := { program := "ytlioggjncgfioaa", sum := "11ddfdc7409c1092770f59b2752faab05aae13d19ccd884f20584711358dfd82", func := "loop.example/g01146/laws.FnPathsAndCircles", spec := "fnPathsAndCircles", unfollowed := true, recurses := true, apart := false, narrowed := true }
def FnPathsAndCirclesUptoSaid : Prop := fnPathsAndCirclesUptoRow.holds Try.pinned (OpenSpec.upto fnPathsAndCirclesSpec)

/-- 'laws.FnAllOnSolved', WHERE WHAT IT READS IS OF BULK AT MOST 1048576: true; the input reads as it did. -/
def fnAllOnSolvedUptoRow : OpenClaim := { program := "ytlioggjncgfioaa", sum := "11ddfdc7409c1092770f59b2752faab05aae13d19ccd884f20584711358dfd82", func := "loop.example/g01146/laws.FnAllOnSolved", spec := "fnAllOnSolved", unfollowed := true, recurses := true, apart := false, narrowed := true }
def FnAllOnSolvedUptoSaid : Prop := fnAllOnSolvedUptoRow.holds Try.pinned (OpenSpec.upto fnAllOnSolvedSpec)

/-- 'laws.FnSolvedOrRefused', WHERE WHAT IT READS IS OF BULK AT MOST 1048576: true; the input reads as it did. -/
def fnSolvedOrRefusedUptoRow : OpenClaim := { program := "ytlioggjncgfioaa", sum := "11ddfdc7409c1092770f59b2752faab05aae13d19ccd884f20584711358dfd82", func := "loop.example/g01146/laws.FnSolvedOrRefused", spec := "fnSolvedOrRefused", unfollowed := true, recurses := true, apart := false, narrowed := true }
def FnSolvedOrRefusedUptoSaid : Prop := fnSolvedOrRefusedUptoRow.holds Try.pinned (OpenSpec.upto fnSolvedOrRefusedSpec)

/-- 'laws.FnOddDominating', WHERE WHAT IT READS IS OF BULK AT MOST 1048576: true; the input reads as it did. -/
def fnOddDominatingUptoRow : OpenClaim := { program := "ytlioggjncgfioaa", sum := "11ddfdc7409c1092770f59b2752faab05aae13d19ccd884f20584711358dfd82", func := "loop.example/g01146/laws.FnOddDominating", spec := "fnOddDominating", unfollowed := true, recurses := true, apart := false, narrowed := true }
def FnOddDominatingUptoSaid : Prop := fnOddDominatingUptoRow.holds Try.pinned (OpenSpec.upto fnOddDominatingSpec)

end Rows
end Go.Proofs.Ytlioggjncgfioaa
