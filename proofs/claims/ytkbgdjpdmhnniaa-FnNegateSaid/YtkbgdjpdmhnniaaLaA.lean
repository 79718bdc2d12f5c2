/- The walker's form of Go functions, printed by a program of this repo (wip/vc/tools/gen.py), each with the check that it is the loaded program's own. No condition. -/
import Derived.Test.YtkbgdjpdmhnniaaProg
import Derived.Test.YtkbgdjpdmhnniaaVcA
namespace Go.Proofs.Ytkbgdjpdmhnniaa
open Go Go.Vc Go.Proofs
set_option maxRecDepth 100000
/-- laws.FnNegate -/
def c4 : Cd := ⟨.seq (.rg [d 2 (.mv (.const (.bool false)))])
  (.seq (.seq (.rg [d 5 (.mv (t 0)),
   d 6 (.len (t 5)),
   d 7 (.bin .gtr (t 6) (n 1048576))])
  (.cond (t 7) (.seq (.rg [d 2 (.mv (.const (.bool true)))])
  (.ret)) (.skip)))
  (.seq (.rg [d 8 (.mv (t 0)),
   d 9 (.call 38 [t 8]),
   d 3 (.mv (t 9))])
  (.seq (.rg [d 10 (.mv (t 3)),
   d 11 (.call 39 [t 10]),
   d 4 (.mv (t 11))])
  (.seq (.seq (.rg [d 12 (.mv (t 4)),
   d 13 (.mv (t 3)),
   d 14 (.call 41 [t 13]),
   d 15 (.call 40 [t 12, t 14]),
   d 16 (.un .not (t 15)),
   d 17 (.mv (t 16)),
   g (some 18) 17 false (.mv (t 3)),
   g (some 19) 17 false (.call 42 [t 18]),
   g (some 20) 17 false (.un .not (t 19)),
   d 21 (.pick (t 17) (.const (.bool true)) (t 20))])
  (.cond (t 21) (.seq (.rg [d 22 (.mv (t 4)),
   d 23 (.mv (t 3)),
   d 24 (.call 41 [t 23]),
   d 25 (.call 40 [t 22, t 24]),
   d 2 (.mv (t 25))])
  (.ret)) (.skip)))
  (.seq (.rg [d 26 (.mv (t 4)),
   d 27 (.call 39 [t 26]),
   d 28 (.mv (t 3)),
   d 29 (.call 40 [t 27, t 28]),
   d 30 (.mv (t 29)),
   g (some 31) 30 true (.mv (t 4)),
   g (some 32) 30 true (.call 43 [t 31]),
   g (some 33) 30 true (.mv (t 3)),
   g (some 34) 30 true (.call 43 [t 33]),
   g (some 35) 30 true (.un .neg (t 34)),
   g (some 36) 30 true (.bin .eql (t 32) (t 35)),
   d 37 (.pick (t 30) (t 36) (.const (.bool false))),
   d 38 (.mv (t 37)),
   g (some 39) 38 true (.mv (t 4)),
   g (some 40) 38 true (.call 42 [t 39]),
   d 41 (.pick (t 38) (t 40) (.const (.bool false))),
   d 2 (.mv (t 41))])
  (.ret)))))),
  [.t 2]⟩
theorem k4 : compFn Try.prog [] [] Try.f4 = some c4 := by kernel_rfl
end Go.Proofs.Ytkbgdjpdmhnniaa
