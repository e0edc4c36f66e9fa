/-
  No cell of these rows narrows 'for every input' (looked for: loops, veiled, ifaces, maps, wideKeys, modest, calm, conditions, laid).
  DERIVED. THE GIVEN ROWS OF THIS SEAT. 12 by the template 'for every input the law returns true; each argument reads behind the call as it read before'; 0 by the template 'total and deterministic' (their statements: YtijccendobcndaaTotals.lean).
  GIVEN WITH THE SEED: the statements are not yours to turn. If you find one false, say at which input.
  Laid BY PROGRAM, IN A SANDBOX (cutbox-rows.mjs): the forced cells as the released guide's own fill.sh prints them over the translation 9d7f445a3c6fed2a… (all of the seat's roots in one cut). By AI agents, Wed Nov 11 2026. No macro, syntax, notation, axiom, sorry.
-/
import Derived.Test.YtijccendobcndaaChecked
import GoSem.Claim
import GoSem.ClaimJoined
import GoSem.ClaimMapViews
import Derived.JoinedTies
import Derived.KernelRfl
namespace Go.Proofs.Ytijccendobcndaa
/- THE CELL 'sum', in the pinned program and in every row, IS THE sha256 OF THE DUMP (.gsa) THAT YtijccendobcndaaProg.lean LOADS. Nothing in Lean hashes anything: it is a label: what it is worth is what the hold of that sum in a sandbox is worth. -/
noncomputable def Try.pinned : Pinned := { name := "ytijccendobcndaa", sum := "9d7f445a3c6fed2aaf3f59f2ba360ba98b1775b05f1830442b735edaa5171eb1", checked := Try.checked }
namespace Rows
def none {H : Type} : Left H := { results := [], args := [] }

/-- 'laws.FnExactFirstDesk': WHATEVER THE INPUT: true; the input reads as it did. -/
def fnExactFirstDeskSpec : ChangeSpec := { name := "fnExactFirstDesk", fn := fun _ => fun
  | [] => { results := [.lit (.bool true)], args := [] }
  | _ => none }
def fnExactFirstDeskRow : OpenClaim := { program := "ytijccendobcndaa", sum := "9d7f445a3c6fed2aaf3f59f2ba360ba98b1775b05f1830442b735edaa5171eb1", func := "loop.example/g01146/laws.FnExactFirstDesk", spec := "fnExactFirstDesk", apart := false }
def FnExactFirstDeskSaid : Prop := fnExactFirstDeskRow.holds Try.pinned (OpenSpec.ofChange fnExactFirstDeskSpec)

/-- ITS FALSE NEIGHBOUR: 'it returns false'. Refute it at one input. -/
def fnExactFirstDeskWrong : ChangeSpec := { name := "fnExactFirstDesk", fn := fun _ => fun
  | [] => { results := [.lit (.bool false)], args := [] }
  | _ => none }
def FnExactFirstDeskWrongFalsely : Prop := fnExactFirstDeskRow.holds Try.pinned (OpenSpec.ofChange fnExactFirstDeskWrong)

/-- 'laws.FnExactApplyMap': WHATEVER THE INPUT: true; the input reads as it did. -/
def fnExactApplyMapSpec : ChangeSpec := { name := "fnExactApplyMap", fn := fun _ => fun
  | [d1, d2] => { results := [.lit (.bool true)], args := [d1, d2] }
  | _ => none }
def fnExactApplyMapRow : OpenClaim := { program := "ytijccendobcndaa", sum := "9d7f445a3c6fed2aaf3f59f2ba360ba98b1775b05f1830442b735edaa5171eb1", func := "loop.example/g01146/laws.FnExactApplyMap", spec := "fnExactApplyMap", unfollowed := true, recurses := true, apart := false }
def FnExactApplyMapSaid : Prop := fnExactApplyMapRow.holds Try.pinned (OpenSpec.ofChange fnExactApplyMapSpec)

/-- ITS FALSE NEIGHBOUR: 'it returns false'. Refute it at one input. -/
def fnExactApplyMapWrong : ChangeSpec := { name := "fnExactApplyMap", fn := fun _ => fun
  | [d1, d2] => { results := [.lit (.bool false)], args := [d1, d2] }
  | _ => none }
def FnExactApplyMapWrongFalsely : Prop := fnExactApplyMapRow.holds Try.pinned (OpenSpec.ofChange fnExactApplyMapWrong)

/-- 'laws.FnExactAddMaps': WHATEVER THE INPUT: true; the input reads as it did. -/
def fnExactAddMapsSpec : ChangeSpec := { name := "fnExactAddMaps", fn := fun _ => fun
  | [d1, d2] => { results := [.lit (.bool true)], args := [d1, d2] }
  | _ => none }
def fnExactAddMapsRow : OpenClaim := { program := "ytijccendobcndaa", sum := "9d7f445a3c6fed2aaf3f59f2ba360ba98b1775b05f1830442b735edaa5171eb1", func := "loop.example/g01146/laws.FnExactAddMaps", spec := "fnExactAddMaps", unfollowed := true, recurses := true, apart := false }
def FnExactAddMapsSaid : Prop := fnExactAddMapsRow.holds Try.pinned (OpenSpec.ofChange fnExactAddMapsSpec)

/-- ITS FALSE NEIGHBOUR: 'it returns false'. Refute it at one input. -/
def fnExactAddMapsWrong : ChangeSpec := { name := "fnExactAddMaps", fn := fun _ => fun
  | [d1, d2] => { results := [.lit (.bool false)], args := [d1, d2] }
  | _ => none }
def FnExactAddMapsWrongFalsely : Prop := fnExactAddMapsRow.holds Try.pinned (OpenSpec.ofChange fnExactAddMapsWrong)

/-- 'laws.FnExactComposeMaps': WHATEVER THE INPUT: true; the input reads as it did. -/
def fnExactComposeMapsSpec : ChangeSpec := { name := "fnExactComposeMaps", fn := fun _ => fun
  | [d1, d2] => { results := [.lit (.bool true)], args := [d1, d2] }
  | _ => none }
def fnExactComposeMapsRow : OpenClaim := { program := "ytijccendobcndaa", sum := "9d7f445a3c6fed2aaf3f59f2ba360ba98b1775b05f1830442b735edaa5171eb1", func := "loop.example/g01146/laws.FnExactComposeMaps", spec := "fnExactComposeMaps", unfollowed := true, recurses := true, apart := false }
def FnExactComposeMapsSaid : Prop := fnExactComposeMapsRow.holds Try.pinned (OpenSpec.ofChange fnExactComposeMapsSpec)

/-- ITS FALSE NEIGHBOUR: 'it returns false'. Refute it at one input. -/
def fnExactComposeMapsWrong : ChangeSpec := { name := "fnExactComposeMaps", fn := fun _ => fun
  | [d1, d2] => { results := [.lit (.bool false)], args := [d1, d2] }
  | _ => none }
def FnExactComposeMapsWrongFalsely : Prop := fnExactComposeMapsRow.holds Try.pinned (OpenSpec.ofChange fnExactComposeMapsWrong)

/-- 'laws.FnExactLitPress': WHATEVER THE INPUT: true; the input reads as it did. -/
def fnExactLitPressSpec : ChangeSpec := { name := "fnExactLitPress", fn := fun _ => fun
  | [d1, d2, d3] => { results := [.lit (.bool true)], args := [d1, d2, d3] }
  | _ => none }
def fnExactLitPressRow : OpenClaim := { program := "ytijccendobcndaa", sum := "9d7f445a3c6fed2aaf3f59f2ba360ba98b1775b05f1830442b735edaa5171eb1", func := "loop.example/g01146/laws.FnExactLitPress", spec := "fnExactLitPress", unfollowed := true, recurses := true, apart := false }
def FnExactLitPressSaid : Prop := fnExactLitPressRow.holds Try.pinned (OpenSpec.ofChange fnExactLitPressSpec)

/-- ITS FALSE NEIGHBOUR: 'it returns false'. Refute it at one input. -/
def fnExactLitPressWrong : ChangeSpec := { name := "fnExactLitPress", fn := fun _ => fun
  | [d1, d2, d3] => { results := [.lit (.bool false)], args := [d1, d2, d3] }
  | _ => none }
def FnExactLitPressWrongFalsely : Prop := fnExactLitPressRow.holds Try.pinned (OpenSpec.ofChange fnExactLitPressWrong)

/-- 'laws.FnExactIsDesk': WHATEVER THE INPUT: true; the input reads as it did. -/
def fnExactIsDeskSpec : ChangeSpec := { name := "fnExactIsDesk", fn := fun _ => fun
  | [d] => { results := [.lit (.bool true)], args := [d] }
  | _ => none }
def fnExactIsDeskRow : OpenClaim := { program := "ytijccendobcndaa", sum := "9d7f445a3c6fed2aaf3f59f2ba360ba98b1775b05f1830442b735edaa5171eb1", func := "loop.example/g01146/laws.FnExactIsDesk", spec := "fnExactIsDesk", unfollowed := true, recurses := true, apart := false }
def FnExactIsDeskSaid : Prop := fnExactIsDeskRow.holds Try.pinned (OpenSpec.ofChange fnExactIsDeskSpec)

/-- ITS FALSE NEIGHBOUR: 'it returns false'. Refute it at one input. -/
def fnExactIsDeskWrong : ChangeSpec := { name := "fnExactIsDesk", fn := fun _ => fun
  | [d] => { results := [.lit (.bool false)], args := [d] }
  | _ => none }
def FnExactIsDeskWrongFalsely : Prop := fnExactIsDeskRow.holds Try.pinned (OpenSpec.ofChange fnExactIsDeskWrong)

/-- 'laws.FnExactLitWord': WHATEVER THE INPUT: true; the input reads as it did. -/
def fnExactLitWordSpec : ChangeSpec := { name := "fnExactLitWord", fn := fun _ => fun
  | [d1, d2, d3] => { results := [.lit (.bool true)], args := [d1, d2, d3] }
  | _ => none }
def fnExactLitWordRow : OpenClaim := { program := "ytijccendobcndaa", sum := "9d7f445a3c6fed2aaf3f59f2ba360ba98b1775b05f1830442b735edaa5171eb1", func := "loop.example/g01146/laws.FnExactLitWord", spec := "fnExactLitWord", unfollowed := true, recurses := true, apart := false }
def FnExactLitWordSaid : Prop := fnExactLitWordRow.holds Try.pinned (OpenSpec.ofChange fnExactLitWordSpec)

/-- ITS FALSE NEIGHBOUR: 'it returns false'. Refute it at one input. -/
def fnExactLitWordWrong : ChangeSpec := { name := "fnExactLitWord", fn := fun _ => fun
  | [d1, d2, d3] => { results := [.lit (.bool false)], args := [d1, d2, d3] }
  | _ => none }
def FnExactLitWordWrongFalsely : Prop := fnExactLitWordRow.holds Try.pinned (OpenSpec.ofChange fnExactLitWordWrong)

/-- 'laws.FnExactToggleMap': WHATEVER THE INPUT: true; the input reads as it did. -/
def fnExactToggleMapSpec : ChangeSpec := { name := "fnExactToggleMap", fn := fun _ => fun
  | [d] => { results := [.lit (.bool true)], args := [d] }
  | _ => none }
def fnExactToggleMapRow : OpenClaim := { program := "ytijccendobcndaa", sum := "9d7f445a3c6fed2aaf3f59f2ba360ba98b1775b05f1830442b735edaa5171eb1", func := "loop.example/g01146/laws.FnExactToggleMap", spec := "fnExactToggleMap", apart := false }
def FnExactToggleMapSaid : Prop := fnExactToggleMapRow.holds Try.pinned (OpenSpec.ofChange fnExactToggleMapSpec)

/-- ITS FALSE NEIGHBOUR: 'it returns false'. Refute it at one input. -/
def fnExactToggleMapWrong : ChangeSpec := { name := "fnExactToggleMap", fn := fun _ => fun
  | [d] => { results := [.lit (.bool false)], args := [d] }
  | _ => none }
def FnExactToggleMapWrongFalsely : Prop := fnExactToggleMapRow.holds Try.pinned (OpenSpec.ofChange fnExactToggleMapWrong)

/-- 'laws.FnExactGridNullity': WHATEVER THE INPUT: true; the input reads as it did. -/
def fnExactGridNullitySpec : ChangeSpec := { name := "fnExactGridNullity", fn := fun _ => fun
  | [d1, d2, d3] => { results := [.lit (.bool true)], args := [d1, d2, d3] }
  | _ => none }
def fnExactGridNullityRow : OpenClaim := { program := "ytijccendobcndaa", sum := "9d7f445a3c6fed2aaf3f59f2ba360ba98b1775b05f1830442b735edaa5171eb1", func := "loop.example/g01146/laws.FnExactGridNullity", spec := "fnExactGridNullity", apart := false }
def FnExactGridNullitySaid : Prop := fnExactGridNullityRow.holds Try.pinned (OpenSpec.ofChange fnExactGridNullitySpec)

/-- ITS FALSE NEIGHBOUR: 'it returns false'. Refute it at one input. -/
def fnExactGridNullityWrong : ChangeSpec := { name := "fnExactGridNullity", fn := fun _ => fun
  | [d1, d2, d3] => { results := [.lit (.bool false)], args := [d1, d2, d3] }
  | _ => none }
def FnExactGridNullityWrongFalsely : Prop := fnExactGridNullityRow.holds Try.pinned (OpenSpec.ofChange fnExactGridNullityWrong)

/-- 'laws.FnExactLitMoves': WHATEVER THE INPUT: true; the input reads as it did. -/
def fnExactLitMovesSpec : ChangeSpec := { name := "fnExactLitMoves", fn := fun _ => fun
  | [d1, d2] => { results := [.lit (.bool true)], args := [d1, d2] }
  | _ => none }
def fnExactLitMovesRow : OpenClaim := { program := "ytijccendobcndaa", sum := "9d7f445a3c6fed2aaf3f59f2ba360ba98b1775b05f1830442b735edaa5171eb1", func := "loop.example/g01146/laws.FnExactLitMoves", spec := "fnExactLitMoves", unfollowed := true, recurses := true, apart := false }
def FnExactLitMovesSaid : Prop := fnExactLitMovesRow.holds Try.pinned (OpenSpec.ofChange fnExactLitMovesSpec)

/-- ITS FALSE NEIGHBOUR: 'it returns false'. Refute it at one input. -/
def fnExactLitMovesWrong : ChangeSpec := { name := "fnExactLitMoves", fn := fun _ => fun
  | [d1, d2] => { results := [.lit (.bool false)], args := [d1, d2] }
  | _ => none }
def FnExactLitMovesWrongFalsely : Prop := fnExactLitMovesRow.holds Try.pinned (OpenSpec.ofChange fnExactLitMovesWrong)

/-- 'laws.FnExactProductGraph': WHATEVER THE INPUT: true; the input reads as it did. -/
def fnExactProductGraphSpec : ChangeSpec := { name := "fnExactProductGraph", fn := fun _ => fun
  | [d1, d2] => { results := [.lit (.bool true)], args := [d1, d2] }
  | _ => none }
def fnExactProductGraphRow : OpenClaim := { program := "ytijccendobcndaa", sum := "9d7f445a3c6fed2aaf3f59f2ba360ba98b1775b05f1830442b735edaa5171eb1", func := "loop.example/g01146/laws.FnExactProductGraph", spec := "fnExactProductGraph", apart := false }
def FnExactProductGraphSaid : Prop := fnExactProductGraphRow.holds Try.pinned (OpenSpec.ofChange fnExactProductGraphSpec)

/-- ITS FALSE NEIGHBOUR: 'it returns false'. Refute it at one input. -/
def fnExactProductGraphWrong : ChangeSpec := { name := "fnExactProductGraph", fn := fun _ => fun
  | [d1, d2] => { results := [.lit (.bool false)], args := [d1, d2] }
  | _ => none }
def FnExactProductGraphWrongFalsely : Prop := fnExactProductGraphRow.holds Try.pinned (OpenSpec.ofChange fnExactProductGraphWrong)

/-- 'laws.FnExactGridTable': WHATEVER THE INPUT: true; the input reads as it did. -/
def fnExactGridTableSpec : ChangeSpec := { name := "fnExactGridTable", fn := fun _ => fun
  | [d1, d2] => { results := [.lit (.bool true)], args := [d1, d2] }
  | _ => none }
def fnExactGridTableRow : OpenClaim := { program := "ytijccendobcndaa", sum := "9d7f445a3c6fed2aaf3f59f2ba360ba98b1775b05f1830442b735edaa5171eb1", func := "loop.example/g01146/laws.FnExactGridTable", spec := "fnExactGridTable", apart := false }
def FnExactGridTableSaid : Prop := fnExactGridTableRow.holds Try.pinned (OpenSpec.ofChange fnExactGridTableSpec)

/-- ITS FALSE NEIGHBOUR: 'it returns false'. Refute it at one input. -/
def fnExactGridTableWrong : ChangeSpec := { name := "fnExactGridTable", fn := fun _ => fun
  | [d1, d2] => { results := [.lit (.bool false)], args := [d1, d2] }
  | _ => none }
def FnExactGridTableWrongFalsely : Prop := fnExactGridTableRow.holds Try.pinned (OpenSpec.ofChange fnExactGridTableWrong)

/- THE SECOND FORM. 'bulk': how many values and letters a reading holds, each counted each time it is reached (what is shared counts as often as it is met; a slice's spare places count too). A statement '..UptoSaid' is the law's where the arguments, and the package variables that the reading takes, are together of bulk at most 1048576: NARROWER than '..Said'. Prove '..Said' where nothing that the law and all that it calls make is longer than what came in: it says more and counts as full. Else prove '..UptoSaid'. A law counts once. -/
mutual
def uptoBulk {H : Type} : DataW H → Nat
  | .lit (.string bytes) => bytes.length + 1
  | .lit _ => 1
  | .nil => 1
  | .ptr d => uptoBulk d + 1
  | .slice elems spare => uptoBulkAll elems + uptoBulkAll spare + 1
  | .agg parts => uptoBulkAll parts + 1
  | .iface _ d => uptoBulk d + 1
  | .map entries => uptoBulkEntries entries + 1
  | .held _ => 1
def uptoBulkAll {H : Type} : List (DataW H) → Nat
  | [] => 0
  | d :: r => uptoBulk d + uptoBulkAll r
def uptoBulkEntries {H : Type} : List (Lit × DataW H) → Nat
  | [] => 0
  | x :: r => uptoBulkEntry x + uptoBulkEntries r
def uptoBulkEntry {H : Type} : Lit × DataW H → Nat
  | (.string bytes, d) => bytes.length + uptoBulk d + 1
  | (_, d) => uptoBulk d + 1
 end
def uptoSmall : (H : Type) → List (DataW H) → Bool := fun _ ds => decide (uptoBulkAll ds ≤ 1048576)
def OpenSpec.upto (s : _root_.Go.ChangeSpec) : _root_.Go.OpenSpec := { _root_.Go.OpenSpec.ofChange s with cond := some uptoSmall }

/-- 'laws.FnExactFirstDesk', WHERE WHAT IT READS IS OF BULK AT MOST 1048576: true; the input reads as it did. -/
def fnExactFirstDeskUptoRow : OpenClaim := { program := "ytijccendobcndaa", sum := "9d7f445a3c6fed2aaf3f59f2ba360ba98b1775b05f1830442b735edaa5171eb1", func := "loop.example/g01146/laws.FnExactFirstDesk", spec := "fnExactFirstDesk", apart := false, narrowed := true }
def FnExactFirstDeskUptoSaid : Prop := fnExactFirstDeskUptoRow.holds Try.pinned (OpenSpec.upto fnExactFirstDeskSpec)

/-- 'laws.FnExactApplyMap', WHERE WHAT IT READS IS OF BULK AT MOST 1048576: true; the input reads as it did. -/
def fnExactApplyMapUptoRow : OpenClaim := { program := "ytijccendobcndaa", sum := "9d7f445a3c6fed2aaf3f59f2ba360ba98b1775b05f1830442b735edaa5171eb1", func := "loop.example/g01146/laws.FnExactApplyMap", spec := "fnExactApplyMap", unfollowed := true, recurses := true, apart := false, narrowed := true }
def FnExactApplyMapUptoSaid : Prop := fnExactApplyMapUptoRow.holds Try.pinned (OpenSpec.upto fnExactApplyMapSpec)

/-- 'laws.FnExactAddMaps', WHERE WHAT IT READS IS OF BULK AT MOST 1048576: true; the input reads as it did. -/
def fnExactAddMapsUptoRow : OpenClaim := { program := "ytijccendobcndaa", sum := "9d7f445a3c6fed2aaf3f59f2ba360ba98b1775b05f1830442b735edaa5171eb1", func := "loop.example/g01146/laws.FnExactAddMaps", spec := "fnExactAddMaps", unfollowed := true, recurses := true, apart := false, narrowed := true }
def FnExactAddMapsUptoSaid : Prop := fnExactAddMapsUptoRow.holds Try.pinned (OpenSpec.upto fnExactAddMapsSpec)

/-- 'laws.FnExactComposeMaps', WHERE WHAT IT READS IS OF BULK AT MOST 1048576: true; the input reads as it did. -/
def fnExactComposeMapsUptoRow : OpenClaim := { program := "ytijccendobcndaa", sum := "9d7f445a3c6fed2aaf3f59f2ba360ba98b1775b05f1830442b735edaa5171eb1", func := "loop.example/g01146/laws.FnExactComposeMaps", spec := "fnExactComposeMaps", unfollowed := true, recurses := true, apart := false, narrowed := true }
def FnExactComposeMapsUptoSaid : Prop := fnExactComposeMapsUptoRow.holds Try.pinned (OpenSpec.upto fnExactComposeMapsSpec)

/-- 'laws.FnExactLitPress', WHERE WHAT IT READS IS OF BULK AT MOST 1048576: true; the input reads as it did. -/
def fnExactLitPressUptoRow : OpenClaim := { program := "ytijccendobcndaa", sum := "9d7f445a3c6fed2aaf3f59f2ba360ba98b1775b05f1830442b735edaa5171eb1", func := "loop.example/g01146/laws.FnExactLitPress", spec := "fnExactLitPress", unfollowed := true, recurses := true, apart := false, narrowed := true }
def FnExactLitPressUptoSaid : Prop := fnExactLitPressUptoRow.holds Try.pinned (OpenSpec.upto fnExactLitPressSpec)

/-- 'laws.FnExactIsDesk', WHERE WHAT IT READS IS OF BULK AT MOST 1048576: true; the input reads as it did. -/
def fnExactIsDeskUptoRow : OpenClaim := { program := "ytijccendobcndaa", sum := "9d7f445a3c6fed2aaf3f59f2ba360ba98b1775b05f1830442b735edaa5171eb1", func := "loop.example/g01146/laws.FnExactIsDesk", spec := "fnExactIsDesk", unfollowed := true, recurses := true, apart := false, narrowed := true }
def FnExactIsDeskUptoSaid : Prop := fnExactIsDeskUptoRow.holds Try.pinned (OpenSpec.upto fnExactIsDeskSpec)

/-- 'laws.FnExactLitWord', WHERE WHAT IT READS IS OF BULK AT MOST 1048576: true; the input reads as it did. -/
def fnExactLitWordUptoRow : OpenClaim := { program := "ytijccendobcndaa", sum := "9d7f445a3c6fed2aaf3f59f2ba360ba98b1775b05f1830442b735edaa5171eb1", func := "loop.example/g01146/laws.FnExactLitWord", spec := "fnExactLitWord", unfollowed := true, recurses := true, apart := false, narrowed := true }
def FnExactLitWordUptoSaid : Prop := fnExactLitWordUptoRow.holds Try.pinned (OpenSpec.upto fnExactLitWordSpec)

/-- 'laws.FnExactToggleMap', WHERE WHAT IT READS IS OF BULK AT MOST 1048576: true; the input reads as it did. -/
def fnExactToggleMapUptoRow : OpenClaim := { program := "ytijccendobcndaa", sum := "9d7f445a3c6fed2aaf3f59f2ba360ba98b1775b05f1830442b735edaa5171eb1", func := "loop.example/g01146/laws.FnExactToggleMap", spec := "fnExactToggleMap", apart := false, narrowed := true }
def FnExactToggleMapUptoSaid : Prop := fnExactToggleMapUptoRow.holds Try.pinned (OpenSpec.upto fnExactToggleMapSpec)

/-- 'laws.FnExactGridNullity', WHERE WHAT IT READS IS OF BULK AT MOST 1048576: true; the input reads as it did. -/
def fnExactGridNullityUptoRow : OpenClaim := { program := "ytijccendobcndaa", sum := "9d7f445a3c6fed2aaf3f59f2ba360ba98b1775b05f1830442b735edaa5171eb1", func := "loop.example/g01146/laws.FnExactGridNullity", spec := "fnExactGridNullity", apart := false, narrowed := true }
def FnExactGridNullityUptoSaid : Prop := fnExactGridNullityUptoRow.holds Try.pinned (OpenSpec.upto fnExactGridNullitySpec)

/-- 'laws.FnExactLitMoves', WHERE WHAT IT READS IS OF BULK AT MOST 1048576: true; the input reads as it did. -/
def fnExactLitMovesUptoRow : OpenClaim := { program := "ytijccendobcndaa", sum := "9d7f445a3c6fed2aaf3f59f2ba360ba98b1775b05f1830442b735edaa5171eb1", func := "loop.example/g01146/laws.FnExactLitMoves", spec := "fnExactLitMoves", unfollowed := true, recurses := true, apart := false, narrowed := true }
def FnExactLitMovesUptoSaid : Prop := fnExactLitMovesUptoRow.holds Try.pinned (OpenSpec.upto fnExactLitMovesSpec)

/-- 'laws.FnExactProductGraph', WHERE WHAT IT READS IS OF BULK AT MOST 1048576: true; the input reads as it did. -/
def fnExactProductGraphUptoRow : OpenClaim := { program := "ytijccendobcndaa", sum := "9d7f445a3c6fed2aaf3f59f2ba360ba98b1775b05f1830442b735edaa5171eb1", func := "loop.example/g01146/laws.FnExactProductGraph", spec := "fnExactProductGraph", apart := false, narrowed := true }
def FnExactProductGraphUptoSaid : Prop := fnExactProductGraphUptoRow.holds Try.pinned (OpenSpec.upto fnExactProductGraphSpec)

/-- 'laws.FnExactGridTable', WHERE WHAT IT READS IS OF BULK AT MOST 1048576: true; the input reads as it did. -/
def fnExactGridTableUptoRow : OpenClaim := { program := "ytijccendobcndaa", sum := "9d7f445a3c6fed2aaf3f59f2ba360ba98b1775b05f1830442b735edaa5171eb1", func := "loop.example/g01146/laws.FnExactGridTable", spec := "fnExactGridTable", apart := false, narrowed := true }
def FnExactGridTableUptoSaid : Prop := fnExactGridTableUptoRow.holds Try.pinned (OpenSpec.upto fnExactGridTableSpec)

end Rows
end Go.Proofs.Ytijccendobcndaa
