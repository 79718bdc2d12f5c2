/- Functions of the law FnTimeLattice: each as a plain Lean function ('.f'), and that the Go code comes to what it answers ('.calls'); put together by programs of this repo (wip/tools) out of the kit's print. No condition. -/
import Derived.Test.YtgadahagohbhhaaProg
import Derived.Below
import Derived.Deep.Draws
import Derived.Deep.AppendLies
import Derived.Maps.AppendAt
import Derived.OwnWalk
import Derived.Laws.BytesArg
import Derived.Laws.MakeOwn
import Derived.Laws.OwnMore
import Derived.Deep.OwnRows
import Derived.Tactics
import Derived.Lib.ConvBytes
import Derived.Laws.Slices
import Derived.WalkKit
import Derived.KernelRfl
import Derived.RowKit3
import Derived.Deep.LoopGhost
import Derived.Deep.QuietTactic
import Derived.BigQuiet
import Derived.WideLaws
import Derived.Deep.DeepCutAuto
import Derived.Deep.CutBlock
import Derived.Deep.RegionHeld3
import Derived.Laws.Rows
import Derived.Lib.AppendStr
import Derived.ArgAppend
import Derived.Laws.IdiomCopy
import Derived.OrdersHeld
import Derived.Laws.BitsLemmas
import Derived.RowKit
import Derived.Test.YtgadahagohbhhaaWWords
import Derived.Test.YtgadahagohbhhaaWLast
import Derived.Test.YtgadahagohbhhaaWTab
import Derived.Test.YtgadahagohbhhaaWFour
import Derived.Test.YtgadahagohbhhaaWQPut
import Derived.Test.YtgadahagohbhhaaWApart
import Derived.Test.YtgadahagohbhhaaWArr
import Derived.Test.YtgadahagohbhhaaWZeros
import Derived.Test.YtgadahagohbhhaaWFoot
import Derived.Test.YtgadahagohbhhaaWKept
import Derived.Test.YtgadahagohbhhaaWShare
import Derived.Test.YtgadahagohbhhaaWN
import Derived.Test.YtgadahagohbhhaaWFootNe
import Derived.Test.YtgadahagohbhhaaWAt
import Derived.Test.YtgadahagohbhhaaWEqStruct
import Derived.Test.YtgadahagohbhhaaWRepsOne
import Derived.Test.YtgadahagohbhhaaWInv
import Derived.Test.YtgadahagohbhhaaWInvWords
import Derived.Test.YtgadahagohbhhaaWGuard
import Derived.Test.YtgadahagohbhhaaWNEv
import Derived.Test.YtgadahagohbhhaaWMore
import Derived.Test.YtgadahagohbhhaaSq
namespace Go.Proofs.Ytgadahagohbhhaa.PFnTimeLattice
open Go.RowKit Go.Proofs.YtgadahagohbhhaaW.PrintWords Go.Proofs.YtgadahagohbhhaaW.PrintLast Go.Proofs.YtgadahagohbhhaaW.PrintMore Go.Proofs.Ytgadahagohbhhaa.Sq
attribute [local go_sem] max2_int min2_int max_two min_two max_three min_three max_four min_four   -- for this text's walks alone
set_option linter.unusedVariables false
set_option linter.unusedSimpArgs false



def errW : Option Int → Value
 | none => .nilIface
 | some c => .iface 0 (.int .i64 c)
theorem errW_none : errW none = .nilIface := rfl
theorem errW_some (c : Int) : errW (some c) = .iface 0 (.int .i64 c) := rfl

theorem info3 : (Try.prog.info? 3).map (fun i => (i.zero, i.size, i.bytes)) = some (some (.int .i64 0), 1, 8) := by kernel_rfl
theorem info5 : (Try.prog.info? 5).map (fun i => (i.zero, i.size, i.bytes)) = some (some (.int .u8 0), 1, 1) := by kernel_rfl
-- the values' own types

end Go.Proofs.Ytgadahagohbhhaa.PFnTimeLattice
