/- The words of the kit's print that this seat's texts use, cut down to those by wip/tools/prune.py of this repo. Plain theorems and definitions; no condition. -/
import Derived.Test.YtbohfeifkkigbaaVApart
import Derived.Test.YtbohfeifkkigbaaVArr
namespace Go.Proofs.YtbohfeifkkigbaaW.PrintWords
open Go.RowKit
section
variable {P : Program}
end
namespace Kd
section
variable {P : Program} {ops : Array Oper} {rest : List Oper} {o : Oper} {a : Act} {Q : Exit → Act → World → Prop} {Kc : Act → World → Prop} {α : Type}
end
section
variable {α : Type} {d : Kd α} {e : Nat} {w : World} {base : Nat} {ok : Nat → Prop} {v : Value} {xs : List α}
end
section
variable {P : Program} {ops : Array Oper} {rest : List Oper} {o : Oper} {a : Act} {Q : Exit → Act → World → Prop} {Kc : Act → World → Prop} {α : Type}
end
end Kd
end Go.Proofs.YtbohfeifkkigbaaW.PrintWords
