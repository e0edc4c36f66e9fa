-- Written by a program of this session (wip/tools/mp.py) around the kit's printer; Lean checks it.
import Derived.Test.YtijccendobcndaaProg
import Derived.Below
import Derived.Deep.Draws
import Derived.Deep.AppendLies
import Derived.Maps.AppendAt
import Derived.OwnWalk
import Derived.Laws.BytesArg
import Derived.Laws.MakeOwn
import Derived.Laws.OwnMore
import Derived.Deep.OwnRows
import Derived.Tactics
import Derived.Lib.ConvBytes
import Derived.Laws.Slices
import Derived.WalkKit
import Derived.KernelRfl
import Derived.RowKit3
import Derived.Deep.LoopGhost
import Derived.Deep.QuietTactic
import Derived.BigQuiet
import Derived.WideLaws
import Derived.Deep.DeepCutAuto
import Derived.Deep.CutBlock
import Derived.Deep.RegionHeld3
import Derived.Laws.Rows
import Derived.Lib.AppendStr
import Derived.ArgAppend
import Derived.Laws.IdiomCopy
import Derived.OrdersHeld
import Derived.Laws.BitsLemmas
import Derived.RowKit
import Derived.Shelf.Abstract
import Derived.Test.YtijccendobcndaaWWords
import Derived.Test.YtijccendobcndaaWLast
import Derived.Test.YtijccendobcndaaWTab
import Derived.Test.YtijccendobcndaaWFour
import Derived.Test.YtijccendobcndaaWQPut
import Derived.Test.YtijccendobcndaaWApart
import Derived.Test.YtijccendobcndaaWArr
import Derived.Test.YtijccendobcndaaWZeros
import Derived.Test.YtijccendobcndaaWFoot
import Derived.Test.YtijccendobcndaaWKept
import Derived.Test.YtijccendobcndaaWShare
import Derived.Test.YtijccendobcndaaWN
import Derived.Test.YtijccendobcndaaWFootNe
import Derived.Test.YtijccendobcndaaWAt
import Derived.Test.YtijccendobcndaaWEqStruct
import Derived.Test.YtijccendobcndaaWRepsOne
import Derived.Test.YtijccendobcndaaWInv
import Derived.Test.YtijccendobcndaaWInvWords
import Derived.Test.YtijccendobcndaaWGuard
import Derived.Test.YtijccendobcndaaWNEv
import Derived.Test.YtijccendobcndaaWMore
namespace Go.Proofs.Ytijccendobcndaa.PFnExactGridTable
open Go.RowKit Go.Proofs.YtijccendobcndaaW.PrintWords Go.Proofs.YtijccendobcndaaW.PrintLast Go.Proofs.YtijccendobcndaaW.PrintMore
attribute [local go_sem] max2_int min2_int max_two min_two max_three min_three max_four min_four   -- for this text's walks alone
set_option linter.unusedVariables false
set_option linter.unusedSimpArgs false



def errW : Option Int → Value
  | none => .nilIface
  | some c => .iface 0 (.int .i64 c)
theorem errW_none : errW none = .nilIface := rfl
theorem errW_some (c : Int) : errW (some c) = .iface 0 (.int .i64 c) := rfl

theorem info3 : (Try.prog.info? 3).map (fun i => (i.zero, i.size, i.bytes)) = some (some (.int .i64 0), 1, 8) := by kernel_rfl
-- the values' own types

end Go.Proofs.Ytijccendobcndaa.PFnExactGridTable
