/- THE ROW of FnExactToggleMap: for every input the law's call returns true and leaves its arguments as they were. Conditions: none beyond the given row's own. -/
import Derived.Test.YtijccendobcndaaRows
import Derived.Test.YtijccendobcndaaPFnExactToggleMapx4
import Derived.Test.YtijccendobcndaaPureFnExactToggleMap
import Derived.Test.YtijccendobcndaaGr
import Derived.WalkKit
import Derived.ProofKit
import Derived.OpenShut
import Derived.ShutString
import Derived.ChangeOld
import Derived.Below
import Derived.SizedLaws
import Derived.Test.YtijccendobcndaaWSized
namespace Go.Proofs.Ytijccendobcndaa.fnExactToggleMap
open Go.ChangeShapes Go.WideShapes Go.ChangeAt Go.RowKit
open Go.ChangeMaps (open_string shut_string)
set_option linter.unusedVariables false
theorem own : ownKnob Try.prog.godebug = none := by kernel_rfl
theorem laidOut : laidOutB Try.prog = true := by kernel_rfl
set_option maxRecDepth 100000 in
theorem lifted (os : Os) (started : os.Started) (H : Type) (enc : TypeId × Value → H) :
    ReturnsInHanded {} Try.checked os 10 .any (Rows.fnExactToggleMapSpec.pre6 enc Try.prog Try.f10 Rows.fnExactToggleMapRow.domain false) (Rows.fnExactToggleMapSpec.post enc Try.prog Try.f10 false true false false) := by
  refine returnsInHanded_of_change_sized (C := Try.checked) own started (by kernel_rfl) Try.func10
    (ChangeSpec.witness6 (enc := enc) (C := Try.checked) false ⟨#[], #[.agg #[.slice none 0 0, .bool false]], []⟩ 8 (by kernel_rfl) (by kernel_rfl) (by kernel_rfl) (by kernel_rfl)) ?_
  intro W base args ds gs before hval0 hW hcnd hsz0 _
  have hsz : (DataW.weightsEach Try.prog (Try.f10.params.toList ++ Rows.fnExactToggleMapSpec.plain.varTypes Try.prog) (ds ++ gs)).all (· ≤ reachBytes) = true := hsz0
  have hval : ∀ (j : Nat) t v, Try.f10.params[j]? = some t → args[j]? = some v → Value.okWide Try.prog W .any base t v := hval0
  have hW' := hW
  obtain ⟨p, q, hA0, hV, rfl, hfz, hnd⟩ := hW
  have hA : DataW.TrodAll enc Try.prog W 0 (fun _ => true) true Try.f10.params.toList args.toList ds p := hA0
  rw [Try.params10] at hA hval hsz
  obtain ⟨v0, vs0, d0, ds0, p0, q0, hargs, rfl, rfl, h0, r0⟩ := trodAll_cons hA
  obtain ⟨rfl, rfl, rfl⟩ := trodAll_nil r0
  obtain rfl : args = #[v0] := by cases args; simp_all
  obtain ⟨rfl, rfl⟩ := trodVars_none hV
  have k0 := h0
  have lt0 : ∀ x ∈ p0, x.block < W.heap.size := by obtain ⟨m, hm⟩ := k0; exact DataW.trod_lt m _ _ _ hm
  obtain ⟨A0_0, len0_0, cap0_0, z0_0, a0_1, rfl, w0_0, y0_0⟩ := YtijccendobcndaaGr.graph_of (e := 3) Try.underlying39 (by kernel_rfl) (by kernel_rfl) Try.underlying22 Try.underlying3 (by kernel_rfl) (by kernel_rfl) Try.underlying4 hsz (j := 0) (t := 39) rfl rfl (hval 0 39 v0 rfl rfl) h0
  clear hA0 hval0 hsz0 hsz
  refine (PFnExactToggleMap.laws_FnExactToggleMap.walk Pure.FnExactToggleMap A0_0 len0_0 cap0_0 z0_0 a0_1 W w0_0 y0_0).mono fun e W' ⟨he, bel⟩ => ?_
  subst he
  exact ⟨_, rfl, _, _, _, [], _, [], hW', trodAll_mk1 (shut_bool Try.underlying4 _), (trodAll_cons_mk (Below.trod laidOut (by kernel_rfl) (of_decide_eq_true (by kernel_rfl)) k0 bel lt0) trodAll_mk0), rfl, bel.frame _, fun h => by cases h⟩
theorem over : Rows.fnExactToggleMapRow.holds Try.pinned (OpenSpec.ofChange Rows.fnExactToggleMapSpec) :=
  OpenClaim.holds_of_wide 10 Try.f10 rfl rfl rfl rfl rfl rfl rfl ⟨rfl, rfl, rfl, rfl, rfl⟩ rfl rfl rfl rfl rfl (by kernel_rfl) Try.func10 (by kernel_rfl)
    (of_decide_eq_true (by kernel_rfl)) (by unfold Func.isWrapper; first | (rw [if_pos (by decide +kernel)]; kernel_rfl) | (rw [if_neg (by decide +kernel)]; exact ⟨rfl, rfl⟩))
    (fun os started H enc _ => lifted os started H enc)
theorem proved : Rows.FnExactToggleMapSaid := over
#print axioms proved
end Go.Proofs.Ytijccendobcndaa.fnExactToggleMap
namespace Go.Proofs.Ytijccendobcndaa
/-- The row, under a short name, for the claim. -/
theorem fnExactToggleMap_holds : Rows.FnExactToggleMapSaid := fnExactToggleMap.proved
end Go.Proofs.Ytijccendobcndaa
