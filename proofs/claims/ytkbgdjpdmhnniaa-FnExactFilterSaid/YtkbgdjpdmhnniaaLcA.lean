/- The walker's form of Go functions, printed by a program of this repo (wip/vc/tools/gen.py), each with the check that it is the loaded program's own. No condition. -/
import Derived.Test.YtkbgdjpdmhnniaaProg
import Derived.Test.YtkbgdjpdmhnniaaVcA
namespace Go.Proofs.Ytkbgdjpdmhnniaa
open Go Go.Vc Go.Proofs
set_option maxRecDepth 100000
/-- laws.FnExactFilter -/
def c6 : Cd := ⟨.seq (.rg [d 3 (.bx false 43 (t 1)),
   d 4 (.mv (.const (.bool false)))])
  (.seq (.rg [d 5 (.mv (n 1048576))])
  (.seq (.rg [d 13 (.mv (t 0)),
   d 14 (.mv (t 5)),
   d 15 (.call 49 [t 13, t 14]),
   d 5 (.mv (t 15))])
  (.seq (.seq (.rg [d 16 (.mv (t 5)),
   d 17 (.bin .lss (t 16) (n 0))])
  (.cond (t 17) (.seq (.rg [d 4 (.mv (.const (.bool true)))])
  (.ret)) (.skip)))
  (.seq (.dr [1] (ots [(0, d 18 (.mv (t 0))),
   (2, d 20 (.ld (some 3) (t 3))),
   (1, d 19 (.call 51 [t 18])),
   (3, d 21 (.call 52 [t 20])),
   (4, d 22 (.call 50 [t 19, t 21])),
   (5, d 6 (.mv (t 22)))] .fin))
  (.seq (.rg [d 23 (.mv (t 0)),
   d 24 (.call 51 [t 23]),
   d 7 (.mv (t 24))])
  (.seq (.rg [d 25 (.mv (t 7)),
   d 26 (.ld (some 3) (t 3)),
   d 27 (.call 52 [t 26]),
   d 28 (.call 53 [t 25, t 27]),
   d 8 (.mv (t 28))])
  (.seq (.seq (.rg [d 29 (.mv (t 8)),
   d 30 (.mv (t 6)),
   d 31 (.call 54 [t 29, t 30]),
   d 32 (.un .not (t 31))])
  (.cond (t 32) (.seq (.rg [d 4 (.mv (.const (.bool false)))])
  (.ret)) (.skip)))
  (.seq (.seq (.rg [d 33 (.mv (t 7)),
   d 34 (.mv (t 0)),
   d 35 (.call 51 [t 34]),
   d 36 (.call 54 [t 33, t 35]),
   d 37 (.un .not (t 36))])
  (.cond (t 37) (.seq (.rg [d 4 (.mv (.const (.bool false)))])
  (.ret)) (.skip)))
  (.seq (.rg [d 9 (.mv (n 1))])
  (.seq (.rg [d 38 (.mv (t 7)),
   d 39 (.mv (t 9)),
   d 40 (.call 55 [t 38, t 39]),
   d 9 (.mv (t 40))])
  (.seq (.seq (.rg [d 41 (.mv (t 9)),
   d 42 (.bin .lss (t 41) (n 0)),
   d 43 (.mv (t 42)),
   g (some 44) 43 false (.mv (t 8)),
   g (some 45) 43 false (.mv (t 6)),
   g (some 46) 43 false (.call 54 [t 44, t 45]),
   g (some 47) 43 false (.un .not (t 46)),
   d 48 (.pick (t 43) (.const (.bool true)) (t 47))])
  (.cond (t 48) (.seq (.rg [d 4 (.mv (.const (.bool false)))])
  (.ret)) (.skip)))
  (.seq (.rg [d 10 (.mv (n 1))])
  (.seq (.rg [d 49 (.mv (t 8)),
   d 50 (.mv (t 10)),
   d 51 (.call 55 [t 49, t 50]),
   d 10 (.mv (t 51))])
  (.seq (.rg [d 11 (.mv (n 1))])
  (.seq (.rg [d 52 (.mv (t 8)),
   d 53 (.mv (t 11)),
   d 54 (.call 56 [t 52, t 53]),
   d 11 (.mv (t 54))])
  (.seq (.seq (.rg [d 55 (.mv (t 11)),
   d 56 (.bin .lss (t 55) (n 0))])
  (.cond (t 56) (.seq (.rg [d 4 (.mv (.const (.bool false)))])
  (.ret)) (.skip)))
  (.seq (.seq (.rg [d 57 (.mv (t 11)),
   d 58 (.mv (t 10)),
   d 59 (.bin .neq (t 57) (t 58))])
  (.cond (t 59) (.seq (.rg [d 4 (.mv (.const (.bool false)))])
  (.ret)) (.skip)))
  (.seq (.dr [1] (ots [(0, d 60 (.mv (t 0))),
   (2, d 62 (.ld (some 3) (t 3))),
   (1, d 61 (.call 51 [t 60])),
   (3, d 63 (.call 52 [t 62])),
   (4, d 64 (.call 53 [t 61, t 63])),
   (5, d 12 (.mv (t 64)))] .fin))
  (.seq (.seq (.rg [d 65 (.mv (t 12)),
   d 66 (.mv (t 6)),
   d 67 (.call 54 [t 65, t 66]),
   d 68 (.un .not (t 67))])
  (.cond (t 68) (.seq (.rg [d 4 (.mv (.const (.bool false)))])
  (.ret)) (.skip)))
  (.seq (.rg [d 11 (.mv (n 1))])
  (.seq (.rg [d 69 (.mv (t 8)),
   d 70 (.mv (t 11)),
   d 71 (.call 56 [t 69, t 70]),
   d 11 (.mv (t 71))])
  (.seq (.seq (.rg [d 72 (.mv (t 11)),
   d 73 (.bin .lss (t 72) (n 0))])
  (.cond (t 73) (.seq (.rg [d 4 (.mv (.const (.bool false)))])
  (.ret)) (.skip)))
  (.seq (.seq (.rg [d 74 (.mv (t 11)),
   d 75 (.mv (t 10)),
   d 76 (.bin .neq (t 74) (t 75))])
  (.cond (t 76) (.seq (.rg [d 4 (.mv (.const (.bool false)))])
  (.ret)) (.skip)))
  (.seq (.rg [d 4 (.mv (.const (.bool true)))])
  (.ret))))))))))))))))))))))))),
  [.t 4]⟩
theorem k6 : compFn Try.prog [] [(5, [1], its [0, 2, 1, 3, 4, 5] .fin), (24, [1], its [0, 2, 1, 3, 4, 5] .fin)] Try.f6 = some c6 := by kernel_rfl
end Go.Proofs.Ytkbgdjpdmhnniaa
