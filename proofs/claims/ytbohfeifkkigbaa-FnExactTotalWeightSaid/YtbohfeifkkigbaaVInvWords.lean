/- The words of the kit's print that this seat's texts use, cut down to those by wip/tools/prune.py of this repo. Plain theorems and definitions; no condition. -/
import Derived.Test.YtbohfeifkkigbaaVInv
import Derived.Test.YtbohfeifkkigbaaVFootNe
namespace Go.Proofs.YtbohfeifkkigbaaW.PrintWords
open Go.RowKit
end Go.Proofs.YtbohfeifkkigbaaW.PrintWords
namespace Go.Proofs.YtbohfeifkkigbaaW.PrintLast
section
variable {ops : Array Oper} {a : Act} {o og : Oper} {g : Nat} {t : Tmp} {u : Bool}
end
end Go.Proofs.YtbohfeifkkigbaaW.PrintLast
