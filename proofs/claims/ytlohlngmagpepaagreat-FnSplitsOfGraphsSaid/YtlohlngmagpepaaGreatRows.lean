/-
  No cell of these rows narrows 'for every input' (looked for: loops, veiled, ifaces, maps, wideKeys, modest, calm, conditions, laid).
  DERIVED. THE GIVEN ROWS OF THIS SEAT. 3 by the template 'for every input the law returns true; each argument reads behind the call as it read before'; 0 by the template 'total and deterministic' (their statements: YtlohlngmagpepaaGreatTotals.lean).
  GIVEN WITH THE SEED: the statements are not yours to turn. If you find one false, say at which input.
  Laid BY PROGRAM, IN A SANDBOX (cutbox-rows.mjs): the forced cells as the released guide's own fill.sh prints them over the translation 52e3671ae44ad36c… (all of the seat's roots in one cut). By AI agents, Wed Nov 11 2026. No macro, syntax, notation, axiom, sorry.
-/
import Derived.Test.YtlohlngmagpepaaGreatChecked
import GoSem.Claim
import GoSem.ClaimJoined
import GoSem.ClaimMapViews
import Derived.JoinedTies
import Derived.KernelRfl
namespace Go.Proofs.YtlohlngmagpepaaGreat
/- THE CELL 'sum', in the pinned program and in every row, IS THE sha256 OF THE DUMP (.gsa) THAT YtlohlngmagpepaaGreatProg.lean LOADS. Nothing in Lean hashes anything: it is a label: what it is worth is what the hold of that sum in a sandbox is worth. -/
noncomputable def Tryz.pinned : Pinned := { name := "ytlohlngmagpepaagreat", sum := "52e3671ae44ad36c56c38e4461237fcedab3426affc9b94238fe1cdc3d4a8263", checked := Tryz.checked }
namespace Rows
def none {H : Type} : Left H := { results := [], args := [] }

/-- 'laws.FnSplitsOfGraphs': WHATEVER THE INPUT: true; the input reads as it did. -/
def fnSplitsOfGraphsSpec : ChangeSpec := { name := "fnSplitsOfGraphs", fn := fun _ => fun
  | [d1, d2] => { results := [.lit (.bool true)], args := [d1, d2] }
  | _ => none }
def fnSplitsOfGraphsRow : OpenClaim := { program := "ytlohlngmagpepaagreat", sum := "52e3671ae44ad36c56c38e4461237fcedab3426affc9b94238fe1cdc3d4a8263", func := "loop.example/g01146/laws.FnSplitsOfGraphs", spec := "fnSplitsOfGraphs", unfollowed := true, recurses := true, apart := false }
def FnSplitsOfGraphsSaid : Prop := fnSplitsOfGraphsRow.holds Tryz.pinned (OpenSpec.ofChange fnSplitsOfGraphsSpec)

/-- ITS FALSE NEIGHBOUR: 'it returns false'. Refute it at one input. -/
def fnSplitsOfGraphsWrong : ChangeSpec := { name := "fnSplitsOfGraphs", fn := fun _ => fun
  | [d1, d2] => { results := [.lit (.bool false)], args := [d1, d2] }
  | _ => none }
def FnSplitsOfGraphsWrongFalsely : Prop := fnSplitsOfGraphsRow.holds Tryz.pinned (OpenSpec.ofChange fnSplitsOfGraphsWrong)

/-- 'laws.FnForestsByParents': WHATEVER THE INPUT: true; the input reads as it did. -/
def fnForestsByParentsSpec : ChangeSpec := { name := "fnForestsByParents", fn := fun _ => fun
  | [d1, d2] => { results := [.lit (.bool true)], args := [d1, d2] }
  | _ => none }
def fnForestsByParentsRow : OpenClaim := { program := "ytlohlngmagpepaagreat", sum := "52e3671ae44ad36c56c38e4461237fcedab3426affc9b94238fe1cdc3d4a8263", func := "loop.example/g01146/laws.FnForestsByParents", spec := "fnForestsByParents", unfollowed := true, recurses := true, apart := false }
def FnForestsByParentsSaid : Prop := fnForestsByParentsRow.holds Tryz.pinned (OpenSpec.ofChange fnForestsByParentsSpec)

/-- ITS FALSE NEIGHBOUR: 'it returns false'. Refute it at one input. -/
def fnForestsByParentsWrong : ChangeSpec := { name := "fnForestsByParents", fn := fun _ => fun
  | [d1, d2] => { results := [.lit (.bool false)], args := [d1, d2] }
  | _ => none }
def FnForestsByParentsWrongFalsely : Prop := fnForestsByParentsRow.holds Tryz.pinned (OpenSpec.ofChange fnForestsByParentsWrong)

/-- 'laws.FnStatesSolveTrees': WHATEVER THE INPUT: true; the input reads as it did. -/
def fnStatesSolveTreesSpec : ChangeSpec := { name := "fnStatesSolveTrees", fn := fun _ => fun
  | [d1, d2] => { results := [.lit (.bool true)], args := [d1, d2] }
  | _ => none }
def fnStatesSolveTreesRow : OpenClaim := { program := "ytlohlngmagpepaagreat", sum := "52e3671ae44ad36c56c38e4461237fcedab3426affc9b94238fe1cdc3d4a8263", func := "loop.example/g01146/laws.FnStatesSolveTrees", spec := "fnStatesSolveTrees", unfollowed := true, recurses := true, apart := false }
def FnStatesSolveTreesSaid : Prop := fnStatesSolveTreesRow.holds Tryz.pinned (OpenSpec.ofChange fnStatesSolveTreesSpec)

/-- ITS FALSE NEIGHBOUR: 'it returns false'. Refute it at one input. -/
def fnStatesSolveTreesWrong : ChangeSpec := { name := "fnStatesSolveTrees", fn := fun _ => fun
  | [d1, d2] => { results := [.lit (.bool false)], args := [d1, d2] }
  | _ => none }
def FnStatesSolveTreesWrongFalsely : Prop := fnStatesSolveTreesRow.holds Tryz.pinned (OpenSpec.ofChange fnStatesSolveTreesWrong)

/- THE SECOND FORM. 'bulk': how many values and letters a reading holds, each counted each time it is reached (what is shared counts as often as it is met; a slice's spare places count too). A statement '..UptoSaid' is the law's where the arguments, and the package variables that the reading takes, are together of bulk at most 1048576: NARROWER than '..Said'. Prove '..Said' where nothing that the law and all that it calls make is longer than what came in: it says more and counts as full. Else prove '..UptoSaid'. A law counts once. -/
mutual
def uptoBulk {H : Type} : DataW H → Nat
  | .lit (.string bytes) => bytes.length + 1
  | .lit _ => 1
  | .nil => 1
  | .ptr d => uptoBulk d + 1
  | .slice elems spare => uptoBulkAll elems + uptoBulkAll spare + 1
  | .agg parts => uptoBulkAll parts + 1
  | .iface _ d => uptoBulk d + 1
  | .map entries => uptoBulkEntries entries + 1
  | .held _ => 1
def uptoBulkAll {H : Type} : List (DataW H) → Nat
  | [] => 0
  | d :: r => uptoBulk d + uptoBulkAll r
def uptoBulkEntries {H : Type} : List (Lit × DataW H) → Nat
  | [] => 0
  | x :: r => uptoBulkEntry x + uptoBulkEntries r
def uptoBulkEntry {H : Type} : Lit × DataW H → Nat
  | (.string bytes, d) => bytes.length + uptoBulk d + 1
  | (_, d) => uptoBulk d + 1
 end
def uptoSmall : (H : Type) → List (DataW H) → Bool := fun _ ds => decide (uptoBulkAll ds ≤ 1048576)
def OpenSpec.upto (s : _root_.Go.ChangeSpec) : _root_.Go.OpenSpec := { _root_.Go.OpenSpec.ofChange s with cond := some uptoSmall }

/-- 'laws.FnSplitsOfGraphs', WHERE WHAT IT READS IS OF BULK AT MOST 1048576: true; the input reads as it did. -/
def fnSplitsOfGraphsUptoRow : OpenClaim := { program := "ytlohlngmagpepaagreat", sum := "52e3671ae44ad36c56c38e4461237fcedab3426affc9b94238fe1cdc3d4a8263", func := "loop.example/g01146/laws.FnSplitsOfGraphs", spec := "fnSplitsOfGraphs", unfollowed := true, recurses := true, apart := false, narrowed := true }
def FnSplitsOfGraphsUptoSaid : Prop := fnSplitsOfGraphsUptoRow.holds Tryz.pinned (OpenSpec.upto fnSplitsOfGraphsSpec)

/-- 'laws.FnForestsByParents', WHERE WHAT IT READS IS OF BULK AT MOST 1048576: true; the input reads as it did. -/
def fnForestsByParentsUptoRow : OpenClaim := { program := "ytlohlngmagpepaagreat", sum := "52e3671ae44ad36c56c38e4461237fcedab3426affc9b94238fe1cdc3d4a8263", func := "loop.example/g01146/laws.FnForestsByParents", spec := "fnForestsByParents", unfollowed := true, recurses := true, apart := false, narrowed := true }
def FnForestsByParentsUptoSaid : Prop := fnForestsByParentsUptoRow.holds Tryz.pinned (OpenSpec.upto fnForestsByParentsSpec)

/-- 'laws.FnStatesSolveTrees', WHERE WHAT IT READS IS OF BULK AT MOST 1048576: true; the input reads as it did. -/
def fnStatesSolveTreesUptoRow : OpenClaim := { program := "ytlohlngmagpepaagreat", sum := "52e3671ae44ad36c56c38e4461237fcedab3426affc9b94238fe1cdc3d4a8263", func := "loop.example/g01146/laws.FnStatesSolveTrees", spec := "fnStatesSolveTrees", unfollowed := true, recurses := true, apart := false, narrowed := true }
def FnStatesSolveTreesUptoSaid : Prop := fnStatesSolveTreesUptoRow.holds Tryz.pinned (OpenSpec.upto fnStatesSolveTreesSpec)

end Rows
end Go.Proofs.YtlohlngmagpepaaGreat
