/-
  No cell of these rows narrows 'for every input' (looked for: loops, veiled, ifaces, maps, wideKeys, modest, calm, conditions, laid).
  DERIVED. THE GIVEN ROWS OF THIS SEAT. 6 by the template 'for every input the law returns true; each argument reads behind the call as it read before'; 0 by the template 'total and deterministic' (their statements: YtokgnjbnckmndaaTotals.lean).
  GIVEN WITH THE SEED: the statements are not yours to turn. If you find one false, say at which input.
  Laid BY PROGRAM, IN A SANDBOX (cutbox-rows.mjs): the forced cells as the released guide's own fill.sh prints them over the translation f286d54705596070… (all of the seat's roots in one cut). By AI agents, Wed Nov 11 2026. No macro, syntax, notation, axiom, sorry.
-/
import Derived.Test.YtokgnjbnckmndaaChecked
import GoSem.Claim
import GoSem.ClaimJoined
import GoSem.ClaimMapViews
import Derived.JoinedTies
import Derived.KernelRfl
namespace Go.Proofs.Ytokgnjbnckmndaa
/- THE CELL 'sum', in the pinned program and in every row, IS THE sha256 OF THE DUMP (.gsa) THAT YtokgnjbnckmndaaProg.lean LOADS. Nothing in Lean hashes anything: it is a label: what it is worth is what the hold of that sum in a sandbox is worth. -/
noncomputable def Try.pinned : Pinned := { name := "ytokgnjbnckmndaa", sum := "f286d54705596070e43897a9c3fc5f489fce05cae5a2e6ab6292a76d2aa847ea", checked := Try.checked }
namespace Rows
def none {H : Type} : Left H := { results := [], args := [] }

/-- 'laws.FnExactLeastLights': WHATEVER THE INPUT: true; the input reads as it did. -/
def fnExactLeastLightsSpec : ChangeSpec := { name := "fnExactLeastLights", fn := fun _ => fun
  | [d] => { results := [.lit (.bool true)], args := [d] }
  | _ => none }
def fnExactLeastLightsRow : OpenClaim := { program := "ytokgnjbnckmndaa", sum := "f286d54705596070e43897a9c3fc5f489fce05cae5a2e6ab6292a76d2aa847ea", func := "loop.example/g01146/laws.FnExactLeastLights", spec := "fnExactLeastLights", unfollowed := true, recurses := true, apart := false }
def FnExactLeastLightsSaid : Prop := fnExactLeastLightsRow.holds Try.pinned (OpenSpec.ofChange fnExactLeastLightsSpec)

/-- ITS FALSE NEIGHBOUR: 'it returns false'. Refute it at one input. -/
def fnExactLeastLightsWrong : ChangeSpec := { name := "fnExactLeastLights", fn := fun _ => fun
  | [d] => { results := [.lit (.bool false)], args := [d] }
  | _ => none }
def FnExactLeastLightsWrongFalsely : Prop := fnExactLeastLightsRow.holds Try.pinned (OpenSpec.ofChange fnExactLeastLightsWrong)

/-- 'laws.FnExactFewestLit': WHATEVER THE INPUT: true; the input reads as it did. -/
def fnExactFewestLitSpec : ChangeSpec := { name := "fnExactFewestLit", fn := fun _ => fun
  | [d1, d2] => { results := [.lit (.bool true)], args := [d1, d2] }
  | _ => none }
def fnExactFewestLitRow : OpenClaim := { program := "ytokgnjbnckmndaa", sum := "f286d54705596070e43897a9c3fc5f489fce05cae5a2e6ab6292a76d2aa847ea", func := "loop.example/g01146/laws.FnExactFewestLit", spec := "fnExactFewestLit", unfollowed := true, recurses := true, apart := false }
def FnExactFewestLitSaid : Prop := fnExactFewestLitRow.holds Try.pinned (OpenSpec.ofChange fnExactFewestLitSpec)

/-- ITS FALSE NEIGHBOUR: 'it returns false'. Refute it at one input. -/
def fnExactFewestLitWrong : ChangeSpec := { name := "fnExactFewestLit", fn := fun _ => fun
  | [d1, d2] => { results := [.lit (.bool false)], args := [d1, d2] }
  | _ => none }
def FnExactFewestLitWrongFalsely : Prop := fnExactFewestLitRow.holds Try.pinned (OpenSpec.ofChange fnExactFewestLitWrong)

/-- 'laws.FnExactOrbitSizes': WHATEVER THE INPUT: true; the input reads as it did. -/
def fnExactOrbitSizesSpec : ChangeSpec := { name := "fnExactOrbitSizes", fn := fun _ => fun
  | [d] => { results := [.lit (.bool true)], args := [d] }
  | _ => none }
def fnExactOrbitSizesRow : OpenClaim := { program := "ytokgnjbnckmndaa", sum := "f286d54705596070e43897a9c3fc5f489fce05cae5a2e6ab6292a76d2aa847ea", func := "loop.example/g01146/laws.FnExactOrbitSizes", spec := "fnExactOrbitSizes", unfollowed := true, recurses := true, apart := false }
def FnExactOrbitSizesSaid : Prop := fnExactOrbitSizesRow.holds Try.pinned (OpenSpec.ofChange fnExactOrbitSizesSpec)

/-- ITS FALSE NEIGHBOUR: 'it returns false'. Refute it at one input. -/
def fnExactOrbitSizesWrong : ChangeSpec := { name := "fnExactOrbitSizes", fn := fun _ => fun
  | [d] => { results := [.lit (.bool false)], args := [d] }
  | _ => none }
def FnExactOrbitSizesWrongFalsely : Prop := fnExactOrbitSizesRow.holds Try.pinned (OpenSpec.ofChange fnExactOrbitSizesWrong)

/-- 'laws.FnExactReflectOrbit': WHATEVER THE INPUT: true; the input reads as it did. -/
def fnExactReflectOrbitSpec : ChangeSpec := { name := "fnExactReflectOrbit", fn := fun _ => fun
  | [d1, d2] => { results := [.lit (.bool true)], args := [d1, d2] }
  | _ => none }
def fnExactReflectOrbitRow : OpenClaim := { program := "ytokgnjbnckmndaa", sum := "f286d54705596070e43897a9c3fc5f489fce05cae5a2e6ab6292a76d2aa847ea", func := "loop.example/g01146/laws.FnExactReflectOrbit", spec := "fnExactReflectOrbit", unfollowed := true, recurses := true, apart := false }
def FnExactReflectOrbitSaid : Prop := fnExactReflectOrbitRow.holds Try.pinned (OpenSpec.ofChange fnExactReflectOrbitSpec)

/-- ITS FALSE NEIGHBOUR: 'it returns false'. Refute it at one input. -/
def fnExactReflectOrbitWrong : ChangeSpec := { name := "fnExactReflectOrbit", fn := fun _ => fun
  | [d1, d2] => { results := [.lit (.bool false)], args := [d1, d2] }
  | _ => none }
def FnExactReflectOrbitWrongFalsely : Prop := fnExactReflectOrbitRow.holds Try.pinned (OpenSpec.ofChange fnExactReflectOrbitWrong)

/-- 'laws.FnExactCircleProduct': WHATEVER THE INPUT: true; the input reads as it did. -/
def fnExactCircleProductSpec : ChangeSpec := { name := "fnExactCircleProduct", fn := fun _ => fun
  | [d1, d2] => { results := [.lit (.bool true)], args := [d1, d2] }
  | _ => none }
def fnExactCircleProductRow : OpenClaim := { program := "ytokgnjbnckmndaa", sum := "f286d54705596070e43897a9c3fc5f489fce05cae5a2e6ab6292a76d2aa847ea", func := "loop.example/g01146/laws.FnExactCircleProduct", spec := "fnExactCircleProduct", unfollowed := true, recurses := true, apart := false }
def FnExactCircleProductSaid : Prop := fnExactCircleProductRow.holds Try.pinned (OpenSpec.ofChange fnExactCircleProductSpec)

/-- ITS FALSE NEIGHBOUR: 'it returns false'. Refute it at one input. -/
def fnExactCircleProductWrong : ChangeSpec := { name := "fnExactCircleProduct", fn := fun _ => fun
  | [d1, d2] => { results := [.lit (.bool false)], args := [d1, d2] }
  | _ => none }
def FnExactCircleProductWrongFalsely : Prop := fnExactCircleProductRow.holds Try.pinned (OpenSpec.ofChange fnExactCircleProductWrong)

/-- 'laws.FnExactPathProduct': WHATEVER THE INPUT: true; the input reads as it did. -/
def fnExactPathProductSpec : ChangeSpec := { name := "fnExactPathProduct", fn := fun _ => fun
  | [d1, d2] => { results := [.lit (.bool true)], args := [d1, d2] }
  | _ => none }
def fnExactPathProductRow : OpenClaim := { program := "ytokgnjbnckmndaa", sum := "f286d54705596070e43897a9c3fc5f489fce05cae5a2e6ab6292a76d2aa847ea", func := "loop.example/g01146/laws.FnExactPathProduct", spec := "fnExactPathProduct", unfollowed := true, recurses := true, apart := false }
def FnExactPathProductSaid : Prop := fnExactPathProductRow.holds Try.pinned (OpenSpec.ofChange fnExactPathProductSpec)

/-- ITS FALSE NEIGHBOUR: 'it returns false'. Refute it at one input. -/
def fnExactPathProductWrong : ChangeSpec := { name := "fnExactPathProduct", fn := fun _ => fun
  | [d1, d2] => { results := [.lit (.bool false)], args := [d1, d2] }
  | _ => none }
def FnExactPathProductWrongFalsely : Prop := fnExactPathProductRow.holds Try.pinned (OpenSpec.ofChange fnExactPathProductWrong)

/- THE SECOND FORM. 'bulk': how many values and letters a reading holds, each counted each time it is reached (what is shared counts as often as it is met; a slice's spare places count too). A statement '..UptoSaid' is the law's where the arguments, and the package variables that the reading takes, are together of bulk at most 1048576: NARROWER than '..Said'. Prove '..Said' where nothing that the law and all that it calls make is longer than what came in: it says more and counts as full. Else prove '..UptoSaid'. A law counts once. -/
mutual
def uptoBulk {H : Type} : DataW H → Nat
  | .lit (.string bytes) => bytes.length + 1
  | .lit _ => 1
  | .nil => 1
  | .ptr d => uptoBulk d + 1
  | .slice elems spare => uptoBulkAll elems + uptoBulkAll spare + 1
  | .agg parts => uptoBulkAll parts + 1
  | .iface _ d => uptoBulk d + 1
  | .map entries => uptoBulkEntries entries + 1
  | .held _ => 1
def uptoBulkAll {H : Type} : List (DataW H) → Nat
  | [] => 0
  | d :: r => uptoBulk d + uptoBulkAll r
def uptoBulkEntries {H : Type} : List (Lit × DataW H) → Nat
  | [] => 0
  | x :: r => uptoBulkEntry x + uptoBulkEntries r
def uptoBulkEntry {H : Type} : Lit × DataW H → Nat
  | (.string bytes, d) => bytes.length + uptoBulk d + 1
  | (_, d) => uptoBulk d + 1
 end
def uptoSmall : (H : Type) → List (DataW H) → Bool := fun _ ds => decide (uptoBulkAll ds ≤ 1048576)
def OpenSpec.upto (s : _root_.Go.ChangeSpec) : _root_.Go.OpenSpec := { _root_.Go.OpenSpec.ofChange s with cond := some uptoSmall }

/-- 'laws.FnExactLeastLights', WHERE WHAT IT READS IS OF BULK AT MOST 1048576: true; the input reads as it did. -/
def fnExactLeastLightsUptoRow : OpenClaim := { program := "ytokgnjbnckmndaa", sum := "f286d54705596070e43897a9c3fc5f489fce05cae5a2e6ab6292a76d2aa847ea", func := "loop.example/g01146/laws.FnExactLeastLights", spec := "fnExactLeastLights", unfollowed := true, recurses := true, apart := false, narrowed := true }
def FnExactLeastLightsUptoSaid : Prop := fnExactLeastLightsUptoRow.holds Try.pinned (OpenSpec.upto fnExactLeastLightsSpec)

/-- 'laws.FnExactFewestLit', WHERE WHAT IT READS IS OF BULK AT MOST 1048576: true; the input reads as it did. -/
def fnExactFewestLitUptoRow : OpenClaim := { program := "ytokgnjbnckmndaa", sum := "f286d54705596070e43897a9c3fc5f489fce05cae5a2e6ab6292a76d2aa847ea", func := "loop.example/g01146/laws.FnExactFewestLit", spec := "fnExactFewestLit", unfollowed := true, recurses := true, apart := false, narrowed := true }
def FnExactFewestLitUptoSaid : Prop := fnExactFewestLitUptoRow.holds Try.pinned (OpenSpec.upto fnExactFewestLitSpec)

/-- 'laws.FnExactOrbitSizes', WHERE WHAT IT READS IS OF BULK AT MOST 1048576: true; the input reads as it did. -/
def fnExactOrbitSizesUptoRow : OpenClaim := { program := "ytokgnjbnckmndaa", sum := "f286d54705596070e43897a9c3fc5f489fce05cae5a2e6ab6292a76d2aa847ea", func := "loop.example/g01146/laws.FnExactOrbitSizes", spec := "fnExactOrbitSizes", unfollowed := true, recurses := true, apart := false, narrowed := true }
def FnExactOrbitSizesUptoSaid : Prop := fnExactOrbitSizesUptoRow.holds Try.pinned (OpenSpec.upto fnExactOrbitSizesSpec)

/-- 'laws.FnExactReflectOrbit', WHERE WHAT IT READS IS OF BULK AT MOST 1048576: true; the input reads as it did. -/
def fnExactReflectOrbitUptoRow : OpenClaim := { program := "ytokgnjbnckmndaa", sum := "f286d54705596070e43897a9c3fc5f489fce05cae5a2e6ab6292a76d2aa847ea", func := "loop.example/g01146/laws.FnExactReflectOrbit", spec := "fnExactReflectOrbit", unfollowed := true, recurses := true, apart := false, narrowed := true }
def FnExactReflectOrbitUptoSaid : Prop := fnExactReflectOrbitUptoRow.holds Try.pinned (OpenSpec.upto fnExactReflectOrbitSpec)

/-- 'laws.FnExactCircleProduct', WHERE WHAT IT READS IS OF BULK AT MOST 1048576: true; the input reads as it did. -/
def fnExactCircleProductUptoRow : OpenClaim := { program := "ytokgnjbnckmndaa", sum := "f286d54705596070e43897a9c3fc5f489fce05cae5a2e6ab6292a76d2aa847ea", func := "loop.example/g01146/laws.FnExactCircleProduct", spec := "fnExactCircleProduct", unfollowed := true, recurses := true, apart := false, narrowed := true }
def FnExactCircleProductUptoSaid : Prop := fnExactCircleProductUptoRow.holds Try.pinned (OpenSpec.upto fnExactCircleProductSpec)

/-- 'laws.FnExactPathProduct', WHERE WHAT IT READS IS OF BULK AT MOST 1048576: true; the input reads as it did. -/
def fnExactPathProductUptoRow : OpenClaim := { program := "ytokgnjbnckmndaa", sum := "f286d54705596070e43897a9c3fc5f489fce05cae5a2e6ab6292a76d2aa847ea", func := "loop.example/g01146/laws.FnExactPathProduct", spec := "fnExactPathProduct", unfollowed := true, recurses := true, apart := false, narrowed := true }
def FnExactPathProductUptoSaid : Prop := fnExactPathProductUptoRow.holds Try.pinned (OpenSpec.upto fnExactPathProductSpec)

end Rows
end Go.Proofs.Ytokgnjbnckmndaa
