/- The walker's form of Go functions, printed by a program of this repo (wip/vc/tools/gen.py), each with the check that it is the loaded program's own. No condition. -/
import Derived.Test.YtkbgdjpdmhnniaaProg
import Derived.Test.YtkbgdjpdmhnniaaVcA
namespace Go.Proofs.Ytkbgdjpdmhnniaa
open Go Go.Vc Go.Proofs
set_option maxRecDepth 100000
/-- laws.toIntS -/
def c76 : Cd := ⟨.seq (.rg [d 2 (.mv (.const (.slice none 0 0)))])
  (.seq (.rg [d 5 (.mv (t 0)),
   d 6 (.len (t 5)),
   d 7 (.mk 3 1 8 [.int .i64 0] (t 6)),
   d 3 (.mv (t 7))])
  (.seq (.seq (.rg [d 4 (.mv (n 0))])
  (.block 0 (.loop (.seq (.seq (.rg [d 8 (.mv (t 4)),
   d 9 (.mv (t 0)),
   d 10 (.len (t 9)),
   d 11 (.bin .lss (t 8) (t 10))])
  (.cond (t 11) (.skip) (.exit 0)))
  (.seq (.block 1 (.rg [d 14 (.mv (t 3)),
   d 15 (.mv (t 4)),
   d 16 (.mv (t 0)),
   d 17 (.mv (t 4)),
   d 18 (.ia (t 16) (t 17) 1),
   d 19 (.ld none (t 18)),
   d 20 (.ia (t 14) (t 15) 1),
   x (.st 1 (t 20) (t 19))]))
  (.rg [d 12 (.mv (t 4)),
   d 13 (.bin .add (t 12) (n 1)),
   d 4 (.mv (t 13))]))))))
  (.seq (.rg [d 21 (.mv (t 3)),
   d 2 (.mv (t 21))])
  (.ret)))),
  [.t 2]⟩
theorem k76 : compFn Try.prog [] [] Try.f76 = some c76 := by kernel_rfl

/-- laws.toEntry -/
def c137 : Cd := ⟨.seq (.rg [d 1 (.bx false 122 (t 0)),
   d 2 (.al false 40 [.slice none 0 0, .int .i64 0])])
  (.seq (.rg [d 3 (.al false 40 [.slice none 0 0, .int .i64 0])])
  (.seq (.rg [d 4 (.fa (t 1) 0),
   d 5 (.ld none (t 4)),
   d 6 (.call 76 [t 5]),
   d 7 (.fa (t 3) 0),
   x (.st 1 (t 7) (t 6))])
  (.seq (.rg [d 8 (.fa (t 1) 1),
   d 9 (.ld none (t 8)),
   d 10 (.fa (t 3) 1),
   x (.st 1 (t 10) (t 9))])
  (.seq (.rg [d 11 (.ld (some 2) (t 3)),
   x (.st 2 (t 2) (t 11))])
  (.ret))))),
  [.c 2 (some 2)]⟩
theorem k137 : compFn Try.prog [] [] Try.f137 = some c137 := by kernel_rfl

/-- spec.copyInts -/
def c189 : Cd := ⟨.seq (.rg [d 2 (.mv (.const (.slice none 0 0)))])
  (.seq (.rg [d 3 (.bs 3 1 0 [] []),
   d 4 (.mv (t 0)),
   d 5 (.ap 3 1 8 [.int .i64 0] (t 3) (t 4)),
   d 2 (.mv (t 5))])
  (.ret)),
  [.t 2]⟩
theorem k189 : compFn Try.prog [] [] Try.f189 = some c189 := by kernel_rfl

/-- slices.Clone[[]int,int] -/
def c130 : Cd := ⟨.seq (.rg [d 2 (.mv (.const (.slice none 0 0)))])
  (.seq (.seq (.rg [d 3 (.mv (t 0)),
   d 4 (.isn (t 3))])
  (.cond (t 4) (.seq (.rg [d 2 (.mv (.const (.slice none 0 0)))])
  (.ret)) (.skip)))
  (.seq (.rg [d 5 (.bs 3 1 0 [] []),
   d 6 (.mv (t 0)),
   d 7 (.ap 3 1 8 [.int .i64 0] (t 5) (t 6)),
   d 2 (.mv (t 7))])
  (.ret))),
  [.t 2]⟩
theorem k130 : compFn Try.prog [] [] Try.f130 = some c130 := by kernel_rfl

/-- spec.copyEntry -/
def c190 : Cd := ⟨.seq (.rg [d 1 (.bx false 40 (t 0)),
   d 2 (.al false 40 [.slice none 0 0, .int .i64 0])])
  (.seq (.dr [2] (ots [(0, d 3 (.fa (t 1) 0)),
   (1, d 4 (.ld none (t 3))),
   (3, d 6 (.fa (t 1) 1)),
   (4, d 7 (.ld none (t 6))),
   (2, d 5 (.call 189 [t 4])),
   (5, d 8 (.bd [.slice none 0 0, .int .i64 0] [(0, 1, t 5), (1, 1, t 7)])),
   (6, x (.st 2 (t 2) (t 8)))] .fin))
  (.ret)),
  [.c 2 (some 2)]⟩
theorem k190 : compFn Try.prog [] [(1, [2], its [0, 1, 3, 4, 2, 5, 6] .fin)] Try.f190 = some c190 := by kernel_rfl

/-- spec.copyZSet -/
def c188 : Cd := ⟨.seq (.rg [d 2 (.mv (.const (.slice none 0 0)))])
  (.seq (.rg [d 5 (.bs 40 2 0 [] []),
   d 3 (.mv (t 5))])
  (.seq (.seq (.rg [d 4 (.mv (n 0))])
  (.block 0 (.loop (.seq (.seq (.rg [d 6 (.mv (t 4)),
   d 7 (.mv (t 0)),
   d 8 (.len (t 7)),
   d 9 (.bin .lss (t 6) (t 8))])
  (.cond (t 9) (.skip) (.exit 0)))
  (.seq (.block 1 (.rg [d 12 (.mv (t 3)),
   d 13 (.mv (t 0)),
   d 14 (.mv (t 4)),
   d 15 (.ia (t 13) (t 14) 2),
   d 16 (.ld (some 2) (t 15)),
   d 17 (.call 190 [t 16]),
   d 18 (.bs 40 2 1 [.slice none 0 0, .int .i64 0] [(0, t 17)]),
   d 19 (.ap 40 2 32 [.slice none 0 0, .int .i64 0] (t 12) (t 18)),
   d 3 (.mv (t 19))]))
  (.rg [d 10 (.mv (t 4)),
   d 11 (.bin .add (t 10) (n 1)),
   d 4 (.mv (t 11))]))))))
  (.seq (.rg [d 20 (.mv (t 3)),
   d 2 (.mv (t 20))])
  (.ret)))),
  [.t 2]⟩
theorem k188 : compFn Try.prog [] [] Try.f188 = some c188 := by kernel_rfl

/-- impl.copyZ -/
def c126 : Cd := ⟨.seq (.rg [d 2 (.mv (.const (.slice none 0 0)))])
  (.seq (.rg [d 6 (.bs 40 2 0 [] []),
   d 3 (.mv (t 6))])
  (.seq (.seq (.rg [d 7 (.mv (t 0)),
   d 8 (.len (t 7)),
   d 9 (.mv (n 0))])
  (.block 0 (.loop (.seq (.rg [d 10 (.bin .lss (t 9) (t 8))])
  (.seq (.cond (t 10) (.skip) (.exit 0))
  (.seq (.block 1 (.seq (.rg [d 11 (.ia (t 7) (t 9) 2),
   d 12 (.ld (some 2) (t 11)),
   d 5 (.al false 40 [.slice none 0 0, .int .i64 0]),
   x (.st 2 (t 5) (t 12))])
  (.dr [3] (ots [(0, d 13 (.mv (t 3))),
   (1, d 14 (.fa (t 5) 0)),
   (2, d 15 (.ld none (t 14))),
   (4, d 17 (.fa (t 5) 1)),
   (5, d 18 (.ld none (t 17))),
   (3, d 16 (.call 130 [t 15])),
   (6, d 19 (.bd [.slice none 0 0, .int .i64 0] [(0, 1, t 16), (1, 1, t 18)])),
   (7, d 20 (.bs 40 2 1 [.slice none 0 0, .int .i64 0] [(0, t 19)])),
   (8, d 21 (.ap 40 2 32 [.slice none 0 0, .int .i64 0] (t 13) (t 20))),
   (9, d 3 (.mv (t 21)))] .fin))))
  (.rg [d 22 (.bin .add (t 9) (n 1)),
   d 9 (.mv (t 22))])))))))
  (.seq (.rg [d 23 (.mv (t 3)),
   d 2 (.mv (t 23))])
  (.ret)))),
  [.t 2]⟩
theorem k126 : compFn Try.prog [] [(5, [3], its [0, 1, 2, 4, 5, 3, 6, 7, 8, 9] .fin)] Try.f126 = some c126 := by kernel_rfl

/-- spec.negate -/
def c128 : Cd := ⟨.seq (.rg [d 2 (.mv (.const (.slice none 0 0)))])
  (.seq (.rg [d 5 (.mv (t 0)),
   d 6 (.call 188 [t 5]),
   d 3 (.mv (t 6))])
  (.seq (.seq (.rg [d 4 (.mv (n 0))])
  (.block 0 (.loop (.seq (.seq (.rg [d 7 (.mv (t 4)),
   d 8 (.mv (t 3)),
   d 9 (.len (t 8)),
   d 10 (.bin .lss (t 7) (t 9))])
  (.cond (t 10) (.skip) (.exit 0)))
  (.seq (.block 1 (.rg [d 13 (.mv (t 3)),
   d 14 (.mv (t 4)),
   d 15 (.mv (t 3)),
   d 16 (.mv (t 4)),
   d 17 (.ia (t 15) (t 16) 2),
   d 18 (.fa (t 17) 1),
   d 19 (.ld none (t 18)),
   d 20 (.un .neg (t 19)),
   d 21 (.ia (t 13) (t 14) 2),
   d 22 (.fa (t 21) 1),
   x (.st 1 (t 22) (t 20))]))
  (.rg [d 11 (.mv (t 4)),
   d 12 (.bin .add (t 11) (n 1)),
   d 4 (.mv (t 12))]))))))
  (.seq (.rg [d 23 (.mv (t 3)),
   d 2 (.mv (t 23))])
  (.ret)))),
  [.t 2]⟩
theorem k128 : compFn Try.prog [] [] Try.f128 = some c128 := by kernel_rfl

/-- spec.Negate -/
def c41 : Cd := ⟨.seq (.rg [d 2 (.mv (.const (.slice none 0 0)))])
  (.seq (.seq (.rg [d 3 (.mv (t 0)),
   d 4 (.call 127 [t 3]),
   d 5 (.un .not (t 4))])
  (.cond (t 5) (.seq (.rg [d 6 (.bs 40 2 0 [] []),
   d 2 (.mv (t 6))])
  (.ret)) (.skip)))
  (.seq (.rg [d 7 (.mv (t 0)),
   d 8 (.call 128 [t 7]),
   d 2 (.mv (t 8))])
  (.ret))),
  [.t 2]⟩
theorem k41 : compFn Try.prog [] [] Try.f41 = some c41 := by kernel_rfl

/-- impl.Negate -/
def c39 : Cd := ⟨.seq (.rg [d 2 (.mv (.const (.slice none 0 0)))])
  (.seq (.seq (.rg [d 5 (.mv (t 0)),
   d 6 (.call 42 [t 5]),
   d 7 (.un .not (t 6))])
  (.cond (t 7) (.seq (.rg [d 2 (.mv (.const (.slice none 0 0)))])
  (.ret)) (.skip)))
  (.seq (.rg [d 8 (.mv (t 0)),
   d 9 (.call 126 [t 8]),
   d 3 (.mv (t 9))])
  (.seq (.seq (.rg [d 10 (.mv (t 3)),
   d 11 (.len (t 10)),
   d 12 (.mv (n 0))])
  (.block 0 (.loop (.seq (.rg [d 13 (.bin .lss (t 12) (t 11))])
  (.seq (.cond (t 13) (.skip) (.exit 0))
  (.seq (.block 1 (.seq (.rg [d 14 (.mv (t 12)),
   d 4 (.mv (t 14))])
  (.rg [d 15 (.mv (t 3)),
   d 16 (.mv (t 4)),
   d 17 (.mv (t 3)),
   d 18 (.mv (t 4)),
   d 19 (.ia (t 17) (t 18) 2),
   d 20 (.fa (t 19) 1),
   d 21 (.ld none (t 20)),
   d 22 (.un .neg (t 21)),
   d 23 (.ia (t 15) (t 16) 2),
   d 24 (.fa (t 23) 1),
   x (.st 1 (t 24) (t 22))])))
  (.rg [d 25 (.bin .add (t 12) (n 1)),
   d 12 (.mv (t 25))])))))))
  (.seq (.rg [d 26 (.mv (t 3)),
   d 2 (.mv (t 26))])
  (.ret))))),
  [.t 2]⟩
theorem k39 : compFn Try.prog [] [] Try.f39 = some c39 := by kernel_rfl
end Go.Proofs.Ytkbgdjpdmhnniaa
