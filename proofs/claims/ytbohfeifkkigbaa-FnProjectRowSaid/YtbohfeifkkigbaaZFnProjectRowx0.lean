/- Functions of the law FnProjectRow: each as a plain Lean function ('.f'), and that the Go code comes to what it answers ('.calls'); put together by programs of this repo (wip/tools) out of the kit's print. No condition. -/
import Derived.Test.YtbohfeifkkigbaaProg
import Derived.Below
import Derived.Deep.Draws
import Derived.Deep.AppendLies
import Derived.Maps.AppendAt
import Derived.OwnWalk
import Derived.Laws.BytesArg
import Derived.Laws.MakeOwn
import Derived.Laws.OwnMore
import Derived.Deep.OwnRows
import Derived.Tactics
import Derived.Lib.ConvBytes
import Derived.Laws.Slices
import Derived.WalkKit
import Derived.KernelRfl
import Derived.RowKit3
import Derived.Deep.LoopGhost
import Derived.Deep.QuietTactic
import Derived.BigQuiet
import Derived.WideLaws
import Derived.Deep.DeepCutAuto
import Derived.Deep.CutBlock
import Derived.Deep.RegionHeld3
import Derived.Laws.Rows
import Derived.Lib.AppendStr
import Derived.ArgAppend
import Derived.Laws.IdiomCopy
import Derived.OrdersHeld
import Derived.Laws.BitsLemmas
import Derived.RowKit
import Derived.Test.YtbohfeifkkigbaaVWords
import Derived.Test.YtbohfeifkkigbaaVLast
import Derived.Test.YtbohfeifkkigbaaVTab
import Derived.Test.YtbohfeifkkigbaaVFour
import Derived.Test.YtbohfeifkkigbaaVQPut
import Derived.Test.YtbohfeifkkigbaaVApart
import Derived.Test.YtbohfeifkkigbaaVArr
import Derived.Test.YtbohfeifkkigbaaVZeros
import Derived.Test.YtbohfeifkkigbaaVFoot
import Derived.Test.YtbohfeifkkigbaaVKept
import Derived.Test.YtbohfeifkkigbaaVShare
import Derived.Test.YtbohfeifkkigbaaVN
import Derived.Test.YtbohfeifkkigbaaVFootNe
import Derived.Test.YtbohfeifkkigbaaVAt
import Derived.Test.YtbohfeifkkigbaaVEqStruct
import Derived.Test.YtbohfeifkkigbaaVRepsOne
import Derived.Test.YtbohfeifkkigbaaVInv
import Derived.Test.YtbohfeifkkigbaaVInvWords
import Derived.Test.YtbohfeifkkigbaaVGuard
import Derived.Test.YtbohfeifkkigbaaVNEv
import Derived.Test.YtbohfeifkkigbaaVMore
import Derived.Test.YtbohfeifkkigbaaSq
namespace Go.Proofs.Ytbohfeifkkigbaa.PFnProjectRow
open Go.RowKit Go.Proofs.YtbohfeifkkigbaaW.PrintWords Go.Proofs.YtbohfeifkkigbaaW.PrintLast Go.Proofs.YtbohfeifkkigbaaW.PrintMore Go.Proofs.Ytbohfeifkkigbaa.Sq
attribute [local go_sem] max2_int min2_int max_two min_two max_three min_three max_four min_four   -- for this text's walks alone
set_option linter.unusedVariables false
set_option linter.unusedSimpArgs false



def errW : Option Int → Value
 | none => .nilIface
 | some c => .iface 0 (.int .i64 c)
theorem errW_none : errW none = .nilIface := rfl
theorem errW_some (c : Int) : errW (some c) = .iface 0 (.int .i64 c) := rfl

theorem info3 : (Try.prog.info? 3).map (fun i => (i.zero, i.size, i.bytes)) = some (some (.int .i64 0), 1, 8) := by kernel_rfl
theorem info5 : (Try.prog.info? 5).map (fun i => (i.zero, i.size, i.bytes)) = some (some (.int .u8 0), 1, 1) := by kernel_rfl
-- the values' own types

end Go.Proofs.Ytbohfeifkkigbaa.PFnProjectRow
