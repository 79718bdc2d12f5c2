/- The words of the kit's print that this seat's texts use, cut down to those by wip/tools/prune.py of this repo. Plain theorems and definitions; no condition. -/
import Derived.Test.YtbohfeifkkigbaaVN
namespace Go.Proofs.YtbohfeifkkigbaaW.PrintWords
open Go.RowKit
namespace Kd
section
variable {α : Type} {d : Kd α} {W : World} {g n : Nat} {S ok : Nat → Prop} {A : Option Addr} {ad : Addr} {xs : List α}
end
end Kd
end Go.Proofs.YtbohfeifkkigbaaW.PrintWords
