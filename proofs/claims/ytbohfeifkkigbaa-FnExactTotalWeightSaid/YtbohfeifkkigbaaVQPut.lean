/- The words of the kit's print that this seat's texts use, cut down to those by wip/tools/prune.py of this repo. Plain theorems and definitions; no condition. -/
import Derived.Test.YtbohfeifkkigbaaVWords
import Derived.Test.YtbohfeifkkigbaaVLast
namespace Go.Proofs.YtbohfeifkkigbaaW.PrintWords
open Go.RowKit
namespace Kd
section
variable {α : Type} {d : Kd α} {e base g o n cap : Nat} {ok okp : Nat → Prop} {w W : World} {v : Value} {xs : List α}
end
section
variable {α : Type} {enc : α → Value} {h1 : ∀ x, (enc x).oneCell' = true} {e base g o n cap : Nat} {ok : Nat → Prop} {W : World} {xs : List α}
end
end Kd
end Go.Proofs.YtbohfeifkkigbaaW.PrintWords
