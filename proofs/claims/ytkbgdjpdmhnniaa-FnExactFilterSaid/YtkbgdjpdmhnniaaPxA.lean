/- The walker's form of Go functions, printed by a program of this repo (wip/vc/tools/gen.py), each with the check that it is the loaded program's own. No condition. -/
import Derived.Test.YtkbgdjpdmhnniaaProg
import Derived.Test.YtkbgdjpdmhnniaaVcA
namespace Go.Proofs.Ytkbgdjpdmhnniaa
open Go Go.Vc Go.Proofs
set_option maxRecDepth 100000
/-- laws.toPredicate -/
def c52 : Cd := ⟨.seq (.rg [d 1 (.bx false 43 (t 0)),
   d 2 (.al false 47 [.int .i64 0, .int .i64 0, .int .i64 0])])
  (.seq (.rg [d 3 (.al false 47 [.int .i64 0, .int .i64 0, .int .i64 0])])
  (.seq (.rg [d 4 (.fa (t 1) 0),
   d 5 (.ld none (t 4)),
   d 6 (.fa (t 3) 0),
   x (.st 1 (t 6) (t 5))])
  (.seq (.rg [d 7 (.fa (t 1) 1),
   d 8 (.ld none (t 7)),
   d 9 (.fa (t 3) 1),
   x (.st 1 (t 9) (t 8))])
  (.seq (.rg [d 10 (.fa (t 1) 2),
   d 11 (.ld none (t 10)),
   d 12 (.fa (t 3) 2),
   x (.st 1 (t 12) (t 11))])
  (.seq (.rg [d 13 (.ld (some 3) (t 3)),
   x (.st 3 (t 2) (t 13))])
  (.ret)))))),
  [.c 2 (some 3)]⟩
theorem k52 : compFn Try.prog [] [] Try.f52 = some c52 := by kernel_rfl
end Go.Proofs.Ytkbgdjpdmhnniaa
