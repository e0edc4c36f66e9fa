/-
  No cell of these rows narrows 'for every input' (looked for: loops, veiled, ifaces, maps, wideKeys, modest, calm, conditions, laid).
  DERIVED. THE GIVEN ROWS OF THIS SEAT. 12 by the template 'for every input the law returns true; each argument reads behind the call as it read before'; 0 by the template 'total and deterministic' (their statements: YtcdphbpbfmjheaaTotals.lean).
  GIVEN WITH THE SEED: the statements are not yours to turn. If you find one false, say at which input.
  Laid BY PROGRAM, IN A SANDBOX (cutbox-rows.mjs): the forced cells as the released guide's own fill.sh prints them over the translation 13cdc01ed2857b91… (all of the seat's roots in one cut). By AI agents, Wed Nov 11 2026. No macro, syntax, notation, axiom, sorry.
-/
import Derived.Test.YtcdphbpbfmjheaaChecked
import GoSem.Claim
import GoSem.ClaimJoined
import GoSem.ClaimMapViews
import Derived.JoinedTies
import Derived.KernelRfl
namespace Go.Proofs.Ytcdphbpbfmjheaa
/- THE CELL 'sum', in the pinned program and in every row, IS THE sha256 OF THE DUMP (.gsa) THAT YtcdphbpbfmjheaaProg.lean LOADS. Nothing in Lean hashes anything: it is a label: what it is worth is what the hold of that sum in a sandbox is worth. -/
noncomputable def Try.pinned : Pinned := { name := "ytcdphbpbfmjheaa", sum := "13cdc01ed2857b910b15509e2bf73e3235ae6dc3224ad6ed27e00e37856650bf", checked := Try.checked }
namespace Rows
def none {H : Type} : Left H := { results := [], args := [] }

/-- 'laws.FnExactReflectSet': WHATEVER THE INPUT: true; the input reads as it did. -/
def fnExactReflectSetSpec : ChangeSpec := { name := "fnExactReflectSet", fn := fun _ => fun
  | [d1, d2, d3] => { results := [.lit (.bool true)], args := [d1, d2, d3] }
  | _ => none }
def fnExactReflectSetRow : OpenClaim := { program := "ytcdphbpbfmjheaa", sum := "13cdc01ed2857b910b15509e2bf73e3235ae6dc3224ad6ed27e00e37856650bf", func := "loop.example/g01146/laws.FnExactReflectSet", spec := "fnExactReflectSet", unfollowed := true, recurses := true, apart := false }
def FnExactReflectSetSaid : Prop := fnExactReflectSetRow.holds Try.pinned (OpenSpec.ofChange fnExactReflectSetSpec)

/-- ITS FALSE NEIGHBOUR: 'it returns false'. Refute it at one input. -/
def fnExactReflectSetWrong : ChangeSpec := { name := "fnExactReflectSet", fn := fun _ => fun
  | [d1, d2, d3] => { results := [.lit (.bool false)], args := [d1, d2, d3] }
  | _ => none }
def FnExactReflectSetWrongFalsely : Prop := fnExactReflectSetRow.holds Try.pinned (OpenSpec.ofChange fnExactReflectSetWrong)

/-- 'laws.FnExactReflectWord': WHATEVER THE INPUT: true; the input reads as it did. -/
def fnExactReflectWordSpec : ChangeSpec := { name := "fnExactReflectWord", fn := fun _ => fun
  | [d1, d2, d3] => { results := [.lit (.bool true)], args := [d1, d2, d3] }
  | _ => none }
def fnExactReflectWordRow : OpenClaim := { program := "ytcdphbpbfmjheaa", sum := "13cdc01ed2857b910b15509e2bf73e3235ae6dc3224ad6ed27e00e37856650bf", func := "loop.example/g01146/laws.FnExactReflectWord", spec := "fnExactReflectWord", unfollowed := true, recurses := true, apart := false }
def FnExactReflectWordSaid : Prop := fnExactReflectWordRow.holds Try.pinned (OpenSpec.ofChange fnExactReflectWordSpec)

/-- ITS FALSE NEIGHBOUR: 'it returns false'. Refute it at one input. -/
def fnExactReflectWordWrong : ChangeSpec := { name := "fnExactReflectWord", fn := fun _ => fun
  | [d1, d2, d3] => { results := [.lit (.bool false)], args := [d1, d2, d3] }
  | _ => none }
def FnExactReflectWordWrongFalsely : Prop := fnExactReflectWordRow.holds Try.pinned (OpenSpec.ofChange fnExactReflectWordWrong)

/-- 'laws.FnExactFormOf': WHATEVER THE INPUT: true; the input reads as it did. -/
def fnExactFormOfSpec : ChangeSpec := { name := "fnExactFormOf", fn := fun _ => fun
  | [d1, d2] => { results := [.lit (.bool true)], args := [d1, d2] }
  | _ => none }
def fnExactFormOfRow : OpenClaim := { program := "ytcdphbpbfmjheaa", sum := "13cdc01ed2857b910b15509e2bf73e3235ae6dc3224ad6ed27e00e37856650bf", func := "loop.example/g01146/laws.FnExactFormOf", spec := "fnExactFormOf", unfollowed := true, recurses := true, apart := false }
def FnExactFormOfSaid : Prop := fnExactFormOfRow.holds Try.pinned (OpenSpec.ofChange fnExactFormOfSpec)

/-- ITS FALSE NEIGHBOUR: 'it returns false'. Refute it at one input. -/
def fnExactFormOfWrong : ChangeSpec := { name := "fnExactFormOf", fn := fun _ => fun
  | [d1, d2] => { results := [.lit (.bool false)], args := [d1, d2] }
  | _ => none }
def FnExactFormOfWrongFalsely : Prop := fnExactFormOfRow.holds Try.pinned (OpenSpec.ofChange fnExactFormOfWrong)

/-- 'laws.FnExactWayTo': WHATEVER THE INPUT: true; the input reads as it did. -/
def fnExactWayToSpec : ChangeSpec := { name := "fnExactWayTo", fn := fun _ => fun
  | [d1, d2, d3] => { results := [.lit (.bool true)], args := [d1, d2, d3] }
  | _ => none }
def fnExactWayToRow : OpenClaim := { program := "ytcdphbpbfmjheaa", sum := "13cdc01ed2857b910b15509e2bf73e3235ae6dc3224ad6ed27e00e37856650bf", func := "loop.example/g01146/laws.FnExactWayTo", spec := "fnExactWayTo", unfollowed := true, recurses := true, apart := false }
def FnExactWayToSaid : Prop := fnExactWayToRow.holds Try.pinned (OpenSpec.ofChange fnExactWayToSpec)

/-- ITS FALSE NEIGHBOUR: 'it returns false'. Refute it at one input. -/
def fnExactWayToWrong : ChangeSpec := { name := "fnExactWayTo", fn := fun _ => fun
  | [d1, d2, d3] => { results := [.lit (.bool false)], args := [d1, d2, d3] }
  | _ => none }
def FnExactWayToWrongFalsely : Prop := fnExactWayToRow.holds Try.pinned (OpenSpec.ofChange fnExactWayToWrong)

/-- 'laws.FnExactFormSpread': WHATEVER THE INPUT: true; the input reads as it did. -/
def fnExactFormSpreadSpec : ChangeSpec := { name := "fnExactFormSpread", fn := fun _ => fun
  | [d] => { results := [.lit (.bool true)], args := [d] }
  | _ => none }
def fnExactFormSpreadRow : OpenClaim := { program := "ytcdphbpbfmjheaa", sum := "13cdc01ed2857b910b15509e2bf73e3235ae6dc3224ad6ed27e00e37856650bf", func := "loop.example/g01146/laws.FnExactFormSpread", spec := "fnExactFormSpread", unfollowed := true, recurses := true, apart := false }
def FnExactFormSpreadSaid : Prop := fnExactFormSpreadRow.holds Try.pinned (OpenSpec.ofChange fnExactFormSpreadSpec)

/-- ITS FALSE NEIGHBOUR: 'it returns false'. Refute it at one input. -/
def fnExactFormSpreadWrong : ChangeSpec := { name := "fnExactFormSpread", fn := fun _ => fun
  | [d] => { results := [.lit (.bool false)], args := [d] }
  | _ => none }
def FnExactFormSpreadWrongFalsely : Prop := fnExactFormSpreadRow.holds Try.pinned (OpenSpec.ofChange fnExactFormSpreadWrong)

/-- 'laws.FnExactMapOfPoly': WHATEVER THE INPUT: true; the input reads as it did. -/
def fnExactMapOfPolySpec : ChangeSpec := { name := "fnExactMapOfPoly", fn := fun _ => fun
  | [d1, d2] => { results := [.lit (.bool true)], args := [d1, d2] }
  | _ => none }
def fnExactMapOfPolyRow : OpenClaim := { program := "ytcdphbpbfmjheaa", sum := "13cdc01ed2857b910b15509e2bf73e3235ae6dc3224ad6ed27e00e37856650bf", func := "loop.example/g01146/laws.FnExactMapOfPoly", spec := "fnExactMapOfPoly", unfollowed := true, recurses := true, apart := false }
def FnExactMapOfPolySaid : Prop := fnExactMapOfPolyRow.holds Try.pinned (OpenSpec.ofChange fnExactMapOfPolySpec)

/-- ITS FALSE NEIGHBOUR: 'it returns false'. Refute it at one input. -/
def fnExactMapOfPolyWrong : ChangeSpec := { name := "fnExactMapOfPoly", fn := fun _ => fun
  | [d1, d2] => { results := [.lit (.bool false)], args := [d1, d2] }
  | _ => none }
def FnExactMapOfPolyWrongFalsely : Prop := fnExactMapOfPolyRow.holds Try.pinned (OpenSpec.ofChange fnExactMapOfPolyWrong)

/-- 'laws.FnExactMinimalPoly': WHATEVER THE INPUT: true; the input reads as it did. -/
def fnExactMinimalPolySpec : ChangeSpec := { name := "fnExactMinimalPoly", fn := fun _ => fun
  | [d] => { results := [.lit (.bool true)], args := [d] }
  | _ => none }
def fnExactMinimalPolyRow : OpenClaim := { program := "ytcdphbpbfmjheaa", sum := "13cdc01ed2857b910b15509e2bf73e3235ae6dc3224ad6ed27e00e37856650bf", func := "loop.example/g01146/laws.FnExactMinimalPoly", spec := "fnExactMinimalPoly", unfollowed := true, recurses := true, apart := false }
def FnExactMinimalPolySaid : Prop := fnExactMinimalPolyRow.holds Try.pinned (OpenSpec.ofChange fnExactMinimalPolySpec)

/-- ITS FALSE NEIGHBOUR: 'it returns false'. Refute it at one input. -/
def fnExactMinimalPolyWrong : ChangeSpec := { name := "fnExactMinimalPoly", fn := fun _ => fun
  | [d] => { results := [.lit (.bool false)], args := [d] }
  | _ => none }
def FnExactMinimalPolyWrongFalsely : Prop := fnExactMinimalPolyRow.holds Try.pinned (OpenSpec.ofChange fnExactMinimalPolyWrong)

/-- 'laws.FnExactFormOfLights': WHATEVER THE INPUT: true; the input reads as it did. -/
def fnExactFormOfLightsSpec : ChangeSpec := { name := "fnExactFormOfLights", fn := fun _ => fun
  | [d1, d2] => { results := [.lit (.bool true)], args := [d1, d2] }
  | _ => none }
def fnExactFormOfLightsRow : OpenClaim := { program := "ytcdphbpbfmjheaa", sum := "13cdc01ed2857b910b15509e2bf73e3235ae6dc3224ad6ed27e00e37856650bf", func := "loop.example/g01146/laws.FnExactFormOfLights", spec := "fnExactFormOfLights", unfollowed := true, recurses := true, apart := false }
def FnExactFormOfLightsSaid : Prop := fnExactFormOfLightsRow.holds Try.pinned (OpenSpec.ofChange fnExactFormOfLightsSpec)

/-- ITS FALSE NEIGHBOUR: 'it returns false'. Refute it at one input. -/
def fnExactFormOfLightsWrong : ChangeSpec := { name := "fnExactFormOfLights", fn := fun _ => fun
  | [d1, d2] => { results := [.lit (.bool false)], args := [d1, d2] }
  | _ => none }
def FnExactFormOfLightsWrongFalsely : Prop := fnExactFormOfLightsRow.holds Try.pinned (OpenSpec.ofChange fnExactFormOfLightsWrong)

/-- 'laws.FnExactNullityOfMap': WHATEVER THE INPUT: true; the input reads as it did. -/
def fnExactNullityOfMapSpec : ChangeSpec := { name := "fnExactNullityOfMap", fn := fun _ => fun
  | [d] => { results := [.lit (.bool true)], args := [d] }
  | _ => none }
def fnExactNullityOfMapRow : OpenClaim := { program := "ytcdphbpbfmjheaa", sum := "13cdc01ed2857b910b15509e2bf73e3235ae6dc3224ad6ed27e00e37856650bf", func := "loop.example/g01146/laws.FnExactNullityOfMap", spec := "fnExactNullityOfMap", unfollowed := true, recurses := true, apart := false }
def FnExactNullityOfMapSaid : Prop := fnExactNullityOfMapRow.holds Try.pinned (OpenSpec.ofChange fnExactNullityOfMapSpec)

/-- ITS FALSE NEIGHBOUR: 'it returns false'. Refute it at one input. -/
def fnExactNullityOfMapWrong : ChangeSpec := { name := "fnExactNullityOfMap", fn := fun _ => fun
  | [d] => { results := [.lit (.bool false)], args := [d] }
  | _ => none }
def FnExactNullityOfMapWrongFalsely : Prop := fnExactNullityOfMapRow.holds Try.pinned (OpenSpec.ofChange fnExactNullityOfMapWrong)

/-- 'laws.FnExactReachOf': WHATEVER THE INPUT: true; the input reads as it did. -/
def fnExactReachOfSpec : ChangeSpec := { name := "fnExactReachOf", fn := fun _ => fun
  | [d1, d2] => { results := [.lit (.bool true)], args := [d1, d2] }
  | _ => none }
def fnExactReachOfRow : OpenClaim := { program := "ytcdphbpbfmjheaa", sum := "13cdc01ed2857b910b15509e2bf73e3235ae6dc3224ad6ed27e00e37856650bf", func := "loop.example/g01146/laws.FnExactReachOf", spec := "fnExactReachOf", unfollowed := true, recurses := true, apart := false }
def FnExactReachOfSaid : Prop := fnExactReachOfRow.holds Try.pinned (OpenSpec.ofChange fnExactReachOfSpec)

/-- ITS FALSE NEIGHBOUR: 'it returns false'. Refute it at one input. -/
def fnExactReachOfWrong : ChangeSpec := { name := "fnExactReachOf", fn := fun _ => fun
  | [d1, d2] => { results := [.lit (.bool false)], args := [d1, d2] }
  | _ => none }
def FnExactReachOfWrongFalsely : Prop := fnExactReachOfRow.holds Try.pinned (OpenSpec.ofChange fnExactReachOfWrong)

/-- 'laws.FnExactCountOrbits': WHATEVER THE INPUT: true; the input reads as it did. -/
def fnExactCountOrbitsSpec : ChangeSpec := { name := "fnExactCountOrbits", fn := fun _ => fun
  | [d] => { results := [.lit (.bool true)], args := [d] }
  | _ => none }
def fnExactCountOrbitsRow : OpenClaim := { program := "ytcdphbpbfmjheaa", sum := "13cdc01ed2857b910b15509e2bf73e3235ae6dc3224ad6ed27e00e37856650bf", func := "loop.example/g01146/laws.FnExactCountOrbits", spec := "fnExactCountOrbits", unfollowed := true, recurses := true, apart := false }
def FnExactCountOrbitsSaid : Prop := fnExactCountOrbitsRow.holds Try.pinned (OpenSpec.ofChange fnExactCountOrbitsSpec)

/-- ITS FALSE NEIGHBOUR: 'it returns false'. Refute it at one input. -/
def fnExactCountOrbitsWrong : ChangeSpec := { name := "fnExactCountOrbits", fn := fun _ => fun
  | [d] => { results := [.lit (.bool false)], args := [d] }
  | _ => none }
def FnExactCountOrbitsWrongFalsely : Prop := fnExactCountOrbitsRow.holds Try.pinned (OpenSpec.ofChange fnExactCountOrbitsWrong)

/-- 'laws.FnExactTorusNullity': WHATEVER THE INPUT: true; the input reads as it did. -/
def fnExactTorusNullitySpec : ChangeSpec := { name := "fnExactTorusNullity", fn := fun _ => fun
  | [d1, d2, d3] => { results := [.lit (.bool true)], args := [d1, d2, d3] }
  | _ => none }
def fnExactTorusNullityRow : OpenClaim := { program := "ytcdphbpbfmjheaa", sum := "13cdc01ed2857b910b15509e2bf73e3235ae6dc3224ad6ed27e00e37856650bf", func := "loop.example/g01146/laws.FnExactTorusNullity", spec := "fnExactTorusNullity", unfollowed := true, recurses := true, apart := false }
def FnExactTorusNullitySaid : Prop := fnExactTorusNullityRow.holds Try.pinned (OpenSpec.ofChange fnExactTorusNullitySpec)

/-- ITS FALSE NEIGHBOUR: 'it returns false'. Refute it at one input. -/
def fnExactTorusNullityWrong : ChangeSpec := { name := "fnExactTorusNullity", fn := fun _ => fun
  | [d1, d2, d3] => { results := [.lit (.bool false)], args := [d1, d2, d3] }
  | _ => none }
def FnExactTorusNullityWrongFalsely : Prop := fnExactTorusNullityRow.holds Try.pinned (OpenSpec.ofChange fnExactTorusNullityWrong)

/- THE SECOND FORM. 'bulk': how many values and letters a reading holds, each counted each time it is reached (what is shared counts as often as it is met; a slice's spare places count too). A statement '..UptoSaid' is the law's where the arguments, and the package variables that the reading takes, are together of bulk at most 1048576: NARROWER than '..Said'. Prove '..Said' where nothing that the law and all that it calls make is longer than what came in: it says more and counts as full. Else prove '..UptoSaid'. A law counts once. -/
mutual
def uptoBulk {H : Type} : DataW H → Nat
  | .lit (.string bytes) => bytes.length + 1
  | .lit _ => 1
  | .nil => 1
  | .ptr d => uptoBulk d + 1
  | .slice elems spare => uptoBulkAll elems + uptoBulkAll spare + 1
  | .agg parts => uptoBulkAll parts + 1
  | .iface _ d => uptoBulk d + 1
  | .map entries => uptoBulkEntries entries + 1
  | .held _ => 1
def uptoBulkAll {H : Type} : List (DataW H) → Nat
  | [] => 0
  | d :: r => uptoBulk d + uptoBulkAll r
def uptoBulkEntries {H : Type} : List (Lit × DataW H) → Nat
  | [] => 0
  | x :: r => uptoBulkEntry x + uptoBulkEntries r
def uptoBulkEntry {H : Type} : Lit × DataW H → Nat
  | (.string bytes, d) => bytes.length + uptoBulk d + 1
  | (_, d) => uptoBulk d + 1
 end
def uptoSmall : (H : Type) → List (DataW H) → Bool := fun _ ds => decide (uptoBulkAll ds ≤ 1048576)
def OpenSpec.upto (s : _root_.Go.ChangeSpec) : _root_.Go.OpenSpec := { _root_.Go.OpenSpec.ofChange s with cond := some uptoSmall }

/-- 'laws.FnExactReflectSet', WHERE WHAT IT READS IS OF BULK AT MOST 1048576: true; the input reads as it did. -/
def fnExactReflectSetUptoRow : OpenClaim := { program := "ytcdphbpbfmjheaa", sum := "13cdc01ed2857b910b15509e2bf73e3235ae6dc3224ad6ed27e00e37856650bf", func := "loop.example/g01146/laws.FnExactReflectSet", spec := "fnExactReflectSet", unfollowed := true, recurses := true, apart := false, narrowed := true }
def FnExactReflectSetUptoSaid : Prop := fnExactReflectSetUptoRow.holds Try.pinned (OpenSpec.upto fnExactReflectSetSpec)

/-- 'laws.FnExactReflectWord', WHERE WHAT IT READS IS OF BULK AT MOST 1048576: true; the input reads as it did. -/
def fnExactReflectWordUptoRow : OpenClaim := { program := "ytcdphbpbfmjheaa", sum := "13cdc01ed2857b910b15509e2bf73e3235ae6dc3224ad6ed27e00e37856650bf", func := "loop.example/g01146/laws.FnExactReflectWord", spec := "fnExactReflectWord", unfollowed := true, recurses := true, apart := false, narrowed := true }
def FnExactReflectWordUptoSaid : Prop := fnExactReflectWordUptoRow.holds Try.pinned (OpenSpec.upto fnExactReflectWordSpec)

/-- 'laws.FnExactFormOf', WHERE WHAT IT READS IS OF BULK AT MOST 1048576: true; the input reads as it did. -/
def fnExactFormOfUptoRow : OpenClaim := { program := "ytcdphbpbfmjheaa", sum := "13cdc01ed2857b910b15509e2bf73e3235ae6dc3224ad6ed27e00e37856650bf", func := "loop.example/g01146/laws.FnExactFormOf", spec := "fnExactFormOf", unfollowed := true, recurses := true, apart := false, narrowed := true }
def FnExactFormOfUptoSaid : Prop := fnExactFormOfUptoRow.holds Try.pinned (OpenSpec.upto fnExactFormOfSpec)

/-- 'laws.FnExactWayTo', WHERE WHAT IT READS IS OF BULK AT MOST 1048576: true; the input reads as it did. -/
def fnExactWayToUptoRow : OpenClaim := { program := "ytcdphbpbfmjheaa", sum := "13cdc01ed2857b910b15509e2bf73e3235ae6dc3224ad6ed27e00e37856650bf", func := "loop.example/g01146/laws.FnExactWayTo", spec := "fnExactWayTo", unfollowed := true, recurses := true, apart := false, narrowed := true }
def FnExactWayToUptoSaid : Prop := fnExactWayToUptoRow.holds Try.pinned (OpenSpec.upto fnExactWayToSpec)

/-- 'laws.FnExactFormSpread', WHERE WHAT IT READS IS OF BULK AT MOST 1048576: true; the input reads as it did. -/
def fnExactFormSpreadUptoRow : OpenClaim := { program := "ytcdphbpbfmjheaa", sum := "13cdc01ed2857b910b15509e2bf73e3235ae6dc3224ad6ed27e00e37856650bf", func := "loop.example/g01146/laws.FnExactFormSpread", spec := "fnExactFormSpread", unfollowed := true, recurses := true, apart := false, narrowed := true }
def FnExactFormSpreadUptoSaid : Prop := fnExactFormSpreadUptoRow.holds Try.pinned (OpenSpec.upto fnExactFormSpreadSpec)

/-- 'laws.FnExactMapOfPoly', WHERE WHAT IT READS IS OF BULK AT MOST 1048576: true; the input reads as it did. -/
def fnExactMapOfPolyUptoRow : OpenClaim := { program := "ytcdphbpbfmjheaa", sum := "13cdc01ed2857b910b15509e2bf73e3235ae6dc3224ad6ed27e00e37856650bf", func := "loop.example/g01146/laws.FnExactMapOfPoly", spec := "fnExactMapOfPoly", unfollowed := true, recurses := true, apart := false, narrowed := true }
def FnExactMapOfPolyUptoSaid : Prop := fnExactMapOfPolyUptoRow.holds Try.pinned (OpenSpec.upto fnExactMapOfPolySpec)

/-- 'laws.FnExactMinimalPoly', WHERE WHAT IT READS IS OF BULK AT MOST 1048576: true; the input reads as it did. -/
def fnExactMinimalPolyUptoRow : OpenClaim := { program := "ytcdphbpbfmjheaa", sum := "13cdc01ed2857b910b15509e2bf73e3235ae6dc3224ad6ed27e00e37856650bf", func := "loop.example/g01146/laws.FnExactMinimalPoly", spec := "fnExactMinimalPoly", unfollowed := true, recurses := true, apart := false, narrowed := true }
def FnExactMinimalPolyUptoSaid : Prop := fnExactMinimalPolyUptoRow.holds Try.pinned (OpenSpec.upto fnExactMinimalPolySpec)

/-- 'laws.FnExactFormOfLights', WHERE WHAT IT READS IS OF BULK AT MOST 1048576: true; the input reads as it did. -/
def fnExactFormOfLightsUptoRow : OpenClaim := { program := "ytcdphbpbfmjheaa", sum := "13cdc01ed2857b910b15509e2bf73e3235ae6dc3224ad6ed27e00e37856650bf", func := "loop.example/g01146/laws.FnExactFormOfLights", spec := "fnExactFormOfLights", unfollowed := true, recurses := true, apart := false, narrowed := true }
def FnExactFormOfLightsUptoSaid : Prop := fnExactFormOfLightsUptoRow.holds Try.pinned (OpenSpec.upto fnExactFormOfLightsSpec)

/-- 'laws.FnExactNullityOfMap', WHERE WHAT IT READS IS OF BULK AT MOST 1048576: true; the input reads as it did. -/
def fnExactNullityOfMapUptoRow : OpenClaim := { program := "ytcdphbpbfmjheaa", sum := "13cdc01ed2857b910b15509e2bf73e3235ae6dc3224ad6ed27e00e37856650bf", func := "loop.example/g01146/laws.FnExactNullityOfMap", spec := "fnExactNullityOfMap", unfollowed := true, recurses := true, apart := false, narrowed := true }
def FnExactNullityOfMapUptoSaid : Prop := fnExactNullityOfMapUptoRow.holds Try.pinned (OpenSpec.upto fnExactNullityOfMapSpec)

/-- 'laws.FnExactReachOf', WHERE WHAT IT READS IS OF BULK AT MOST 1048576: true; the input reads as it did. -/
def fnExactReachOfUptoRow : OpenClaim := { program := "ytcdphbpbfmjheaa", sum := "13cdc01ed2857b910b15509e2bf73e3235ae6dc3224ad6ed27e00e37856650bf", func := "loop.example/g01146/laws.FnExactReachOf", spec := "fnExactReachOf", unfollowed := true, recurses := true, apart := false, narrowed := true }
def FnExactReachOfUptoSaid : Prop := fnExactReachOfUptoRow.holds Try.pinned (OpenSpec.upto fnExactReachOfSpec)

/-- 'laws.FnExactCountOrbits', WHERE WHAT IT READS IS OF BULK AT MOST 1048576: true; the input reads as it did. -/
def fnExactCountOrbitsUptoRow : OpenClaim := { program := "ytcdphbpbfmjheaa", sum := "13cdc01ed2857b910b15509e2bf73e3235ae6dc3224ad6ed27e00e37856650bf", func := "loop.example/g01146/laws.FnExactCountOrbits", spec := "fnExactCountOrbits", unfollowed := true, recurses := true, apart := false, narrowed := true }
def FnExactCountOrbitsUptoSaid : Prop := fnExactCountOrbitsUptoRow.holds Try.pinned (OpenSpec.upto fnExactCountOrbitsSpec)

/-- 'laws.FnExactTorusNullity', WHERE WHAT IT READS IS OF BULK AT MOST 1048576: true; the input reads as it did. -/
def fnExactTorusNullityUptoRow : OpenClaim := { program := "ytcdphbpbfmjheaa", sum := "13cdc01ed2857b910b15509e2bf73e3235ae6dc3224ad6ed27e00e37856650bf", func := "loop.example/g01146/laws.FnExactTorusNullity", spec := "fnExactTorusNullity", unfollowed := true, recurses := true, apart := false, narrowed := true }
def FnExactTorusNullityUptoSaid : Prop := fnExactTorusNullityUptoRow.holds Try.pinned (OpenSpec.upto fnExactTorusNullitySpec)

end Rows
end Go.Proofs.Ytcdphbpbfmjheaa
