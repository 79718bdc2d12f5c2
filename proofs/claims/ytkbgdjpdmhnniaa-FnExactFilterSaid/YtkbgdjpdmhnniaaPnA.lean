/- The walker's form of Go functions, printed by a program of this repo (wip/vc/tools/gen.py), each with the check that it is the loaded program's own. No condition. -/
import Derived.Test.YtkbgdjpdmhnniaaProg
import Derived.Test.YtkbgdjpdmhnniaaVcA
namespace Go.Proofs.Ytkbgdjpdmhnniaa
open Go Go.Vc Go.Proofs
set_option maxRecDepth 100000
/-- spec.addEntry -/
def c196 : Cd := ⟨.seq (.rg [d 6 (.mv (.const (.slice none 0 0)))])
  (.seq (.rg [d 7 (.mv (n 0))])
  (.seq (.rg [d 11 (.mv (t 0)),
   d 12 (.len (t 11)),
   d 8 (.mv (t 12))])
  (.seq (.block 0 (.loop (.seq (.seq (.rg [d 13 (.mv (t 7)),
   d 14 (.mv (t 8)),
   d 15 (.bin .lss (t 13) (t 14))])
  (.cond (t 15) (.skip) (.exit 0)))
  (.block 1 (.seq (.rg [d 16 (.mv (t 7)),
   d 17 (.mv (t 8)),
   d 18 (.bin .add (t 16) (t 17)),
   d 19 (.bin .quo (t 18) (n 2)),
   d 9 (.mv (t 19))])
  (.seq (.rg [d 20 (.mv (t 0)),
   d 21 (.mv (t 9)),
   d 22 (.ia (t 20) (t 21) 2),
   d 23 (.fa (t 22) 0),
   d 24 (.ld none (t 23)),
   d 25 (.mv (t 1)),
   d 26 (.call 187 [t 24, t 25])])
  (.cond (t 26) (.rg [d 27 (.mv (t 9)),
   d 28 (.bin .add (t 27) (n 1)),
   d 7 (.mv (t 28))]) (.rg [d 29 (.mv (t 9)),
   d 8 (.mv (t 29))]))))))))
  (.seq (.seq (.rg [d 30 (.mv (t 7)),
   d 31 (.mv (t 0)),
   d 32 (.len (t 31)),
   d 33 (.bin .lss (t 30) (t 32)),
   d 34 (.mv (t 33)),
   g (some 35) 34 true (.mv (t 0)),
   g (some 36) 34 true (.mv (t 7)),
   g (some 37) 34 true (.ia (t 35) (t 36) 2),
   g (some 38) 34 true (.fa (t 37) 0),
   g (some 39) 34 true (.ld none (t 38)),
   g (some 40) 34 true (.mv (t 1)),
   g (some 41) 34 true (.call 214 [t 39, t 40]),
   d 42 (.pick (t 34) (t 41) (.const (.bool false)))])
  (.cond (t 42) (.seq (.rg [d 43 (.mv (t 0)),
   d 44 (.mv (t 7)),
   d 45 (.mv (t 0)),
   d 46 (.mv (t 7)),
   d 47 (.ia (t 45) (t 46) 2),
   d 48 (.fa (t 47) 1),
   d 49 (.ld none (t 48)),
   d 50 (.mv (t 2)),
   d 51 (.bin .add (t 49) (t 50)),
   d 52 (.ia (t 43) (t 44) 2),
   d 53 (.fa (t 52) 1),
   x (.st 1 (t 53) (t 51))])
  (.seq (.rg [d 54 (.mv (t 0)),
   d 6 (.mv (t 54))])
  (.ret))) (.skip)))
  (.seq (.rg [d 55 (.bs 40 2 0 [] []),
   d 56 (.mv (t 0)),
   d 57 (.mv (t 7)),
   d 58 (.sl (t 56) none (some (t 57)) 2),
   d 59 (.ap 40 2 32 [.slice none 0 0, .int .i64 0] (t 55) (t 58)),
   d 10 (.mv (t 59))])
  (.seq (.rg [d 60 (.mv (t 10)),
   d 61 (.mv (t 1)),
   d 62 (.call 189 [t 61]),
   d 63 (.mv (t 2)),
   d 64 (.bd [.slice none 0 0, .int .i64 0] [(0, 1, t 62), (1, 1, t 63)]),
   d 65 (.bs 40 2 1 [.slice none 0 0, .int .i64 0] [(0, t 64)]),
   d 66 (.ap 40 2 32 [.slice none 0 0, .int .i64 0] (t 60) (t 65)),
   d 10 (.mv (t 66))])
  (.seq (.rg [d 67 (.mv (t 10)),
   d 68 (.mv (t 0)),
   d 69 (.mv (t 7)),
   d 70 (.sl (t 68) (some (t 69)) none 2),
   d 71 (.ap 40 2 32 [.slice none 0 0, .int .i64 0] (t 67) (t 70)),
   d 6 (.mv (t 71))])
  (.ret)))))))),
  [.t 6]⟩
theorem k196 : compFn Try.prog [] [] Try.f196 = some c196 := by kernel_rfl

/-- spec.withoutZeros -/
def c198 : Cd := ⟨.seq (.rg [d 2 (.mv (.const (.slice none 0 0)))])
  (.seq (.rg [d 5 (.bs 40 2 0 [] []),
   d 3 (.mv (t 5))])
  (.seq (.seq (.rg [d 4 (.mv (n 0))])
  (.block 0 (.loop (.seq (.seq (.rg [d 6 (.mv (t 4)),
   d 7 (.mv (t 0)),
   d 8 (.len (t 7)),
   d 9 (.bin .lss (t 6) (t 8))])
  (.cond (t 9) (.skip) (.exit 0)))
  (.seq (.block 1 (.seq (.rg [d 12 (.mv (t 0)),
   d 13 (.mv (t 4)),
   d 14 (.ia (t 12) (t 13) 2),
   d 15 (.fa (t 14) 1),
   d 16 (.ld none (t 15)),
   d 17 (.bin .neq (t 16) (n 0))])
  (.cond (t 17) (.rg [d 18 (.mv (t 3)),
   d 19 (.mv (t 0)),
   d 20 (.mv (t 4)),
   d 21 (.ia (t 19) (t 20) 2),
   d 22 (.ld (some 2) (t 21)),
   d 23 (.bs 40 2 1 [.slice none 0 0, .int .i64 0] [(0, t 22)]),
   d 24 (.ap 40 2 32 [.slice none 0 0, .int .i64 0] (t 18) (t 23)),
   d 3 (.mv (t 24))]) (.skip))))
  (.rg [d 10 (.mv (t 4)),
   d 11 (.bin .add (t 10) (n 1)),
   d 4 (.mv (t 11))]))))))
  (.seq (.rg [d 25 (.mv (t 3)),
   d 2 (.mv (t 25))])
  (.ret)))),
  [.t 2]⟩
theorem k198 : compFn Try.prog [] [] Try.f198 = some c198 := by kernel_rfl

/-- spec.checked -/
def c197 : Cd := ⟨.seq (.rg [d 2 (.mv (.const (.slice none 0 0)))])
  (.seq (.seq (.rg [d 3 (.mv (t 0)),
   d 4 (.call 127 [t 3]),
   d 5 (.un .not (t 4))])
  (.cond (t 5) (.seq (.rg [d 6 (.bs 40 2 0 [] []),
   d 2 (.mv (t 6))])
  (.ret)) (.skip)))
  (.seq (.rg [d 7 (.mv (t 0)),
   d 2 (.mv (t 7))])
  (.ret))),
  [.t 2]⟩
theorem k197 : compFn Try.prog [] [] Try.f197 = some c197 := by kernel_rfl

/-- spec.normalize -/
def c149 : Cd := ⟨.seq (.rg [d 2 (.mv (.const (.slice none 0 0)))])
  (.seq (.rg [d 5 (.bs 40 2 0 [] []),
   d 3 (.mv (t 5))])
  (.seq (.seq (.rg [d 4 (.mv (n 0))])
  (.block 0 (.loop (.seq (.seq (.rg [d 6 (.mv (t 4)),
   d 7 (.mv (t 0)),
   d 8 (.len (t 7)),
   d 9 (.bin .lss (t 6) (t 8))])
  (.cond (t 9) (.skip) (.exit 0)))
  (.seq (.block 1 (.dr [] (ots [(0, d 12 (.mv (t 3))),
   (1, d 13 (.mv (t 0))),
   (2, d 14 (.mv (t 4))),
   (3, d 15 (.ia (t 13) (t 14) 2)),
   (4, d 16 (.fa (t 15) 0)),
   (5, d 17 (.ld none (t 16))),
   (6, d 18 (.mv (t 0))),
   (7, d 19 (.mv (t 4))),
   (8, d 20 (.ia (t 18) (t 19) 2)),
   (9, d 21 (.fa (t 20) 1)),
   (10, d 22 (.ld none (t 21))),
   (11, d 23 (.call 196 [t 12, t 17, t 22])),
   (12, d 3 (.mv (t 23)))] .fin)))
  (.rg [d 10 (.mv (t 4)),
   d 11 (.bin .add (t 10) (n 1)),
   d 4 (.mv (t 11))]))))))
  (.seq (.rg [d 24 (.mv (t 3)),
   d 25 (.call 198 [t 24]),
   d 26 (.call 197 [t 25]),
   d 2 (.mv (t 26))])
  (.ret)))),
  [.t 2]⟩
theorem k149 : compFn Try.prog [] [(5, [], its [0, 1, 2, 3, 4, 5, 6, 7, 8, 9, 10, 11, 12] .fin)] Try.f149 = some c149 := by kernel_rfl

/-- spec.Normalize -/
def c59 : Cd := ⟨.seq (.rg [d 2 (.mv (.const (.slice none 0 0)))])
  (.seq (.seq (.rg [d 4 (.mv (t 0)),
   d 5 (.len (t 4)),
   d 6 (.bin .gtr (t 5) (n 400))])
  (.cond (t 6) (.seq (.rg [d 7 (.bs 40 2 0 [] []),
   d 2 (.mv (t 7))])
  (.ret)) (.skip)))
  (.seq (.seq (.rg [d 3 (.mv (n 0))])
  (.block 0 (.loop (.seq (.seq (.rg [d 8 (.mv (t 3)),
   d 9 (.mv (t 0)),
   d 10 (.len (t 9)),
   d 11 (.bin .lss (t 8) (t 10))])
  (.cond (t 11) (.skip) (.exit 0)))
  (.seq (.block 1 (.seq (.rg [d 14 (.mv (t 0)),
   d 15 (.mv (t 3)),
   d 16 (.ia (t 14) (t 15) 2),
   d 17 (.fa (t 16) 0),
   d 18 (.ld none (t 17)),
   d 19 (.call 147 [t 18]),
   d 20 (.un .not (t 19)),
   d 21 (.mv (t 20)),
   g (some 22) 21 false (.mv (t 0)),
   g (some 23) 21 false (.mv (t 3)),
   g (some 24) 21 false (.ia (t 22) (t 23) 2),
   g (some 25) 21 false (.fa (t 24) 1),
   g (some 26) 21 false (.ld none (t 25)),
   g (some 27) 21 false (.call 148 [t 26, n (-1000000), n 1000000]),
   g (some 28) 21 false (.un .not (t 27)),
   d 29 (.pick (t 21) (.const (.bool true)) (t 28))])
  (.cond (t 29) (.seq (.rg [d 30 (.bs 40 2 0 [] []),
   d 2 (.mv (t 30))])
  (.ret)) (.skip))))
  (.rg [d 12 (.mv (t 3)),
   d 13 (.bin .add (t 12) (n 1)),
   d 3 (.mv (t 13))]))))))
  (.seq (.rg [d 31 (.mv (t 0)),
   d 32 (.call 149 [t 31]),
   d 2 (.mv (t 32))])
  (.ret)))),
  [.t 2]⟩
theorem k59 : compFn Try.prog [] [] Try.f59 = some c59 := by kernel_rfl
end Go.Proofs.Ytkbgdjpdmhnniaa
