/- The walker's form of Go functions, printed by a program of this repo (wip/vc/tools/gen.py), each with the check that it is the loaded program's own. No condition. -/
import Derived.Test.YtkbgdjpdmhnniaaProg
import Derived.Test.YtkbgdjpdmhnniaaVcA
namespace Go.Proofs.Ytkbgdjpdmhnniaa
open Go Go.Vc Go.Proofs
set_option maxRecDepth 100000
/-- laws.FnDistinct -/
def c5 : Cd := ⟨.seq (.rg [d 2 (.mv (.const (.bool false)))])
  (.seq (.seq (.rg [d 6 (.mv (t 0)),
   d 7 (.len (t 6)),
   d 8 (.bin .gtr (t 7) (n 1048576))])
  (.cond (t 8) (.seq (.rg [d 2 (.mv (.const (.bool true)))])
  (.ret)) (.skip)))
  (.seq (.rg [d 9 (.mv (t 0)),
   d 10 (.call 44 [t 9]),
   d 3 (.mv (t 10))])
  (.seq (.rg [d 11 (.mv (t 3)),
   d 12 (.call 45 [t 11]),
   d 4 (.mv (t 12))])
  (.seq (.seq (.rg [d 13 (.mv (t 4)),
   d 14 (.mv (t 3)),
   d 15 (.call 46 [t 14]),
   d 16 (.call 40 [t 13, t 15]),
   d 17 (.un .not (t 16)),
   d 18 (.mv (t 17)),
   g (some 19) 18 false (.mv (t 3)),
   g (some 20) 18 false (.call 42 [t 19]),
   g (some 21) 18 false (.un .not (t 20)),
   d 22 (.pick (t 18) (.const (.bool true)) (t 21))])
  (.cond (t 22) (.seq (.rg [d 23 (.mv (t 4)),
   d 24 (.mv (t 3)),
   d 25 (.call 46 [t 24]),
   d 26 (.call 40 [t 23, t 25]),
   d 2 (.mv (t 26))])
  (.ret)) (.skip)))
  (.seq (.seq (.rg [d 5 (.mv (n 0))])
  (.block 0 (.loop (.seq (.seq (.rg [d 27 (.mv (t 5)),
   d 28 (.mv (t 3)),
   d 29 (.len (t 28)),
   d 30 (.bin .lss (t 27) (t 29))])
  (.cond (t 30) (.skip) (.exit 0)))
  (.seq (.block 1 (.seq (.dr [6] (ots [(0, d 33 (.mv (t 4))),
   (1, d 34 (.mv (t 3))),
   (2, d 35 (.mv (t 5))),
   (3, d 36 (.ia (t 34) (t 35) 2)),
   (4, d 37 (.fa (t 36) 0)),
   (5, d 38 (.ld none (t 37))),
   (8, d 41 (.mv (t 3))),
   (9, d 42 (.mv (t 5))),
   (10, d 43 (.ia (t 41) (t 42) 2)),
   (11, d 44 (.fa (t 43) 1)),
   (12, d 45 (.ld none (t 44))),
   (13, d 46 (.bin .gtr (t 45) (n 0))),
   (6, d 39 (.call 47 [t 33, t 38])),
   (7, d 40 (.bin .eql (t 39) (n 1))),
   (14, d 47 (.beq true (t 40) (t 46)))] .fin))
  (.cond (t 47) (.seq (.rg [d 2 (.mv (.const (.bool false)))])
  (.ret)) (.skip))))
  (.rg [d 31 (.mv (t 5)),
   d 32 (.bin .add (t 31) (n 1)),
   d 5 (.mv (t 32))]))))))
  (.seq (.rg [d 48 (.mv (t 4)),
   d 49 (.call 48 [t 48]),
   d 50 (.mv (t 49)),
   g (some 51) 50 true (.mv (t 4)),
   g (some 52) 50 true (.call 45 [t 51]),
   g (some 53) 50 true (.mv (t 4)),
   g (some 54) 50 true (.call 40 [t 52, t 53]),
   d 55 (.pick (t 50) (t 54) (.const (.bool false))),
   d 56 (.mv (t 55)),
   g (some 57) 56 true (.mv (t 3)),
   g (some 58) 56 true (.call 48 [t 57]),
   g (some 59) 56 true (.mv (t 4)),
   g (some 60) 56 true (.mv (t 3)),
   g (some 61) 56 true (.call 40 [t 59, t 60]),
   g (some 62) 56 true (.beq false (t 58) (t 61)),
   d 63 (.pick (t 56) (t 62) (.const (.bool false))),
   d 64 (.mv (t 63)),
   g (some 65) 64 true (.mv (t 4)),
   g (some 66) 64 true (.call 43 [t 65]),
   g (some 67) 64 true (.mv (t 4)),
   g (some 68) 64 true (.len (t 67)),
   g (some 69) 64 true (.bin .eql (t 66) (t 68)),
   d 70 (.pick (t 64) (t 69) (.const (.bool false))),
   d 2 (.mv (t 70))])
  (.ret))))))),
  [.t 2]⟩
theorem k5 : compFn Try.prog [] [(10, [6], its [0, 1, 2, 3, 4, 5, 8, 9, 10, 11, 12, 13, 6, 7, 14] .fin)] Try.f5 = some c5 := by kernel_rfl
end Go.Proofs.Ytkbgdjpdmhnniaa
