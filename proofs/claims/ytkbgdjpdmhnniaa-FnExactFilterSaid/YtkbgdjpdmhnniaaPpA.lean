/- The walker's form of Go functions, printed by a program of this repo (wip/vc/tools/gen.py), each with the check that it is the loaded program's own. No condition. -/
import Derived.Test.YtkbgdjpdmhnniaaProg
import Derived.Test.YtkbgdjpdmhnniaaVcA
namespace Go.Proofs.Ytkbgdjpdmhnniaa
open Go Go.Vc Go.Proofs
set_option maxRecDepth 100000
/-- laws.toEntryS -/
def c51 : Cd := ⟨.seq (.rg [d 2 (.mv (.const (.slice none 0 0)))])
  (.seq (.rg [d 5 (.mv (t 0)),
   d 6 (.len (t 5)),
   d 7 (.mk 40 2 32 [.slice none 0 0, .int .i64 0] (t 6)),
   d 3 (.mv (t 7))])
  (.seq (.seq (.rg [d 4 (.mv (n 0))])
  (.block 0 (.loop (.seq (.seq (.rg [d 8 (.mv (t 4)),
   d 9 (.mv (t 0)),
   d 10 (.len (t 9)),
   d 11 (.bin .lss (t 8) (t 10))])
  (.cond (t 11) (.skip) (.exit 0)))
  (.seq (.block 1 (.rg [d 14 (.mv (t 3)),
   d 15 (.mv (t 4)),
   d 16 (.mv (t 0)),
   d 17 (.mv (t 4)),
   d 18 (.ia (t 16) (t 17) 2),
   d 19 (.ld (some 2) (t 18)),
   d 20 (.call 137 [t 19]),
   d 21 (.ia (t 14) (t 15) 2),
   x (.st 2 (t 21) (t 20))]))
  (.rg [d 12 (.mv (t 4)),
   d 13 (.bin .add (t 12) (n 1)),
   d 4 (.mv (t 13))]))))))
  (.seq (.rg [d 22 (.mv (t 3)),
   d 2 (.mv (t 22))])
  (.ret)))),
  [.t 2]⟩
theorem k51 : compFn Try.prog [] [] Try.f51 = some c51 := by kernel_rfl

/-- laws.markIntS -/
def c79 : Cd := ⟨.seq (.rg [d 4 (.mv (n 0))])
  (.seq (.seq (.rg [d 5 (.mv (n 0))])
  (.block 0 (.loop (.seq (.seq (.rg [d 6 (.mv (t 5)),
   d 7 (.mv (t 0)),
   d 8 (.len (t 7)),
   d 9 (.bin .lss (t 6) (t 8))])
  (.cond (t 9) (.skip) (.exit 0)))
  (.seq (.block 1 (.seq (.rg [d 12 (.mv (t 0)),
   d 13 (.mv (t 5)),
   d 14 (.mv (t 1)),
   d 15 (.ia (t 12) (t 13) 1),
   x (.st 1 (t 15) (t 14))])
  (.rg [d 16 (.mv (t 1)),
   d 17 (.bin .add (t 16) (n 1)),
   d 1 (.mv (t 17))])))
  (.rg [d 10 (.mv (t 5)),
   d 11 (.bin .add (t 10) (n 1)),
   d 5 (.mv (t 11))]))))))
  (.seq (.rg [d 18 (.mv (t 1)),
   d 4 (.mv (t 18))])
  (.ret))),
  [.t 4]⟩
theorem k79 : compFn Try.prog [] [] Try.f79 = some c79 := by kernel_rfl

/-- laws.markEntryS -/
def c55 : Cd := ⟨.seq (.rg [d 4 (.mv (n 0))])
  (.seq (.seq (.rg [d 5 (.mv (n 0))])
  (.block 0 (.loop (.seq (.seq (.rg [d 6 (.mv (t 5)),
   d 7 (.mv (t 0)),
   d 8 (.len (t 7)),
   d 9 (.bin .lss (t 6) (t 8))])
  (.cond (t 9) (.skip) (.exit 0)))
  (.seq (.block 1 (.seq (.rg [d 12 (.mv (t 0)),
   d 13 (.mv (t 5)),
   d 14 (.ia (t 12) (t 13) 2),
   d 15 (.fa (t 14) 0),
   d 16 (.ld none (t 15)),
   d 17 (.mv (t 1)),
   d 18 (.call 79 [t 16, t 17]),
   d 1 (.mv (t 18))])
  (.seq (.rg [d 19 (.mv (t 0)),
   d 20 (.mv (t 5)),
   d 21 (.mv (t 1)),
   d 22 (.ia (t 19) (t 20) 2),
   d 23 (.fa (t 22) 1),
   x (.st 1 (t 23) (t 21))])
  (.rg [d 24 (.mv (t 1)),
   d 25 (.bin .add (t 24) (n 1)),
   d 1 (.mv (t 25))]))))
  (.rg [d 10 (.mv (t 5)),
   d 11 (.bin .add (t 10) (n 1)),
   d 5 (.mv (t 11))]))))))
  (.seq (.rg [d 26 (.mv (t 1)),
   d 4 (.mv (t 26))])
  (.ret))),
  [.t 4]⟩
theorem k55 : compFn Try.prog [] [] Try.f55 = some c55 := by kernel_rfl

/-- spec.distinct -/
def c131 : Cd := ⟨.seq (.rg [d 2 (.mv (.const (.slice none 0 0)))])
  (.seq (.rg [d 5 (.bs 40 2 0 [] []),
   d 3 (.mv (t 5))])
  (.seq (.seq (.rg [d 4 (.mv (n 0))])
  (.block 0 (.loop (.seq (.seq (.rg [d 6 (.mv (t 4)),
   d 7 (.mv (t 0)),
   d 8 (.len (t 7)),
   d 9 (.bin .lss (t 6) (t 8))])
  (.cond (t 9) (.skip) (.exit 0)))
  (.seq (.block 1 (.seq (.rg [d 12 (.mv (t 0)),
   d 13 (.mv (t 4)),
   d 14 (.ia (t 12) (t 13) 2),
   d 15 (.fa (t 14) 1),
   d 16 (.ld none (t 15)),
   d 17 (.bin .gtr (t 16) (n 0))])
  (.cond (t 17) (.rg [d 18 (.mv (t 3)),
   d 19 (.mv (t 0)),
   d 20 (.mv (t 4)),
   d 21 (.ia (t 19) (t 20) 2),
   d 22 (.fa (t 21) 0),
   d 23 (.ld none (t 22)),
   d 24 (.call 189 [t 23]),
   d 25 (.bd [.slice none 0 0, .int .i64 0] [(0, 1, t 24), (1, 1, n 1)]),
   d 26 (.bs 40 2 1 [.slice none 0 0, .int .i64 0] [(0, t 25)]),
   d 27 (.ap 40 2 32 [.slice none 0 0, .int .i64 0] (t 18) (t 26)),
   d 3 (.mv (t 27))]) (.skip))))
  (.rg [d 10 (.mv (t 4)),
   d 11 (.bin .add (t 10) (n 1)),
   d 4 (.mv (t 11))]))))))
  (.seq (.rg [d 28 (.mv (t 3)),
   d 2 (.mv (t 28))])
  (.ret)))),
  [.t 2]⟩
theorem k131 : compFn Try.prog [] [] Try.f131 = some c131 := by kernel_rfl

/-- spec.Distinct -/
def c46 : Cd := ⟨.seq (.rg [d 2 (.mv (.const (.slice none 0 0)))])
  (.seq (.seq (.rg [d 3 (.mv (t 0)),
   d 4 (.call 127 [t 3]),
   d 5 (.un .not (t 4))])
  (.cond (t 5) (.seq (.rg [d 6 (.bs 40 2 0 [] []),
   d 2 (.mv (t 6))])
  (.ret)) (.skip)))
  (.seq (.rg [d 7 (.mv (t 0)),
   d 8 (.call 131 [t 7]),
   d 2 (.mv (t 8))])
  (.ret))),
  [.t 2]⟩
theorem k46 : compFn Try.prog [] [] Try.f46 = some c46 := by kernel_rfl

/-- impl.Distinct -/
def c45 : Cd := ⟨.seq (.rg [d 2 (.mv (.const (.slice none 0 0)))])
  (.seq (.seq (.rg [d 6 (.mv (t 0)),
   d 7 (.call 42 [t 6]),
   d 8 (.un .not (t 7))])
  (.cond (t 8) (.seq (.rg [d 2 (.mv (.const (.slice none 0 0)))])
  (.ret)) (.skip)))
  (.seq (.rg [d 9 (.bs 40 2 0 [] []),
   d 3 (.mv (t 9))])
  (.seq (.seq (.rg [d 10 (.mv (t 0)),
   d 11 (.len (t 10)),
   d 12 (.mv (n 0))])
  (.block 0 (.loop (.seq (.rg [d 13 (.bin .lss (t 12) (t 11))])
  (.seq (.cond (t 13) (.skip) (.exit 0))
  (.seq (.block 1 (.seq (.rg [d 14 (.ia (t 10) (t 12) 2),
   d 15 (.ld (some 2) (t 14)),
   d 5 (.al false 40 [.slice none 0 0, .int .i64 0]),
   x (.st 2 (t 5) (t 15))])
  (.seq (.rg [d 16 (.fa (t 5) 1),
   d 17 (.ld none (t 16)),
   d 18 (.bin .gtr (t 17) (n 0))])
  (.cond (t 18) (.rg [d 19 (.mv (t 3)),
   d 20 (.fa (t 5) 0),
   d 21 (.ld none (t 20)),
   d 22 (.call 130 [t 21]),
   d 23 (.bd [.slice none 0 0, .int .i64 0] [(0, 1, t 22), (1, 1, n 1)]),
   d 24 (.bs 40 2 1 [.slice none 0 0, .int .i64 0] [(0, t 23)]),
   d 25 (.ap 40 2 32 [.slice none 0 0, .int .i64 0] (t 19) (t 24)),
   d 3 (.mv (t 25))]) (.skip)))))
  (.rg [d 26 (.bin .add (t 12) (n 1)),
   d 12 (.mv (t 26))])))))))
  (.seq (.rg [d 27 (.mv (t 3)),
   d 2 (.mv (t 27))])
  (.ret))))),
  [.t 2]⟩
theorem k45 : compFn Try.prog [] [] Try.f45 = some c45 := by kernel_rfl
end Go.Proofs.Ytkbgdjpdmhnniaa
