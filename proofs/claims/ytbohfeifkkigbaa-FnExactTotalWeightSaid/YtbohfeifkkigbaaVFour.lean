/- The words of the kit's print that this seat's texts use, cut down to those by wip/tools/prune.py of this repo. Plain theorems and definitions; no condition. -/
import Derived.Test.YtbohfeifkkigbaaVTab
namespace Go.Proofs.YtbohfeifkkigbaaW.PrintLast
section
variable {P : Program} {ops : Array Oper} {Q : Exit → Act → World → Prop} {md : Region.Mode} {S : World → Prop} {ds : List Nat} {T : Bool × List (List Nat × List Nat)}
end
end Go.Proofs.YtbohfeifkkigbaaW.PrintLast
