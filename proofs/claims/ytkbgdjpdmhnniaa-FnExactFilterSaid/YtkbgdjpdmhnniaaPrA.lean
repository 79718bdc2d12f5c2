/- The walker's form of Go functions, printed by a program of this repo (wip/vc/tools/gen.py), each with the check that it is the loaded program's own. No condition. -/
import Derived.Test.YtkbgdjpdmhnniaaProg
import Derived.Test.YtkbgdjpdmhnniaaVcA
namespace Go.Proofs.Ytkbgdjpdmhnniaa
open Go Go.Vc Go.Proofs
set_option maxRecDepth 100000
/-- spec.newReader -/
def c123 : Cd := ⟨.seq (.rg [d 2 (.mv (.const (.pointer none)))])
  (.seq (.seq (.rg [d 3 (.mv (t 0)),
   d 4 (.len (t 3)),
   d 5 (.bin .gtr (t 4) (n 2000))])
  (.cond (t 5) (.rg [d 6 (.mv (t 0)),
   d 7 (.sl (t 6) none (some (n 2000)) 1),
   d 0 (.mv (t 7))]) (.skip)))
  (.seq (.rg [d 8 (.mv (t 0)),
   d 9 (.bd [.slice none 0 0, .int .i64 0] [(0, 1, t 8)]),
   d 10 (.bx true 148 (t 9)),
   d 2 (.mv (t 10))])
  (.ret))),
  [.t 2]⟩
theorem k123 : compFn Try.prog [10] [] Try.f123 = some c123 := by kernel_rfl

/-- (*spec.reader).pick -/
def c125 : Cd := ⟨.seq (.rg [d 4 (.mv (n 0))])
  (.seq (.rg [d 7 (.mv (t 0)),
   d 8 (.mv (t 0)),
   d 9 (.nc (t 8)),
   d 10 (.fa (t 9) 1),
   d 11 (.ld none (t 10)),
   d 12 (.bin .add (t 11) (n 1)),
   d 13 (.nc (t 7)),
   d 14 (.fa (t 13) 1),
   x (.st 1 (t 14) (t 12))])
  (.seq (.seq (.rg [d 15 (.mv (t 1)),
   d 16 (.bin .lss (t 15) (n 1)),
   d 17 (.mv (t 16)),
   g (some 18) 17 false (.mv (t 0)),
   g (some 19) 17 false (.nc (t 18)),
   g (some 20) 17 false (.fa (t 19) 0),
   g (some 21) 17 false (.ld none (t 20)),
   g (some 22) 17 false (.len (t 21)),
   g (some 23) 17 false (.bin .eql (t 22) (n 0)),
   d 24 (.pick (t 17) (.const (.bool true)) (t 23))])
  (.cond (t 24) (.seq (.rg [d 4 (.mv (n 0))])
  (.ret)) (.skip)))
  (.seq (.rg [d 25 (.mv (t 0)),
   d 26 (.nc (t 25)),
   d 27 (.fa (t 26) 1),
   d 28 (.ld none (t 27)),
   d 29 (.bin .sub (t 28) (n 1)),
   d 5 (.mv (t 29))])
  (.seq (.seq (.rg [d 30 (.mv (t 5)),
   d 31 (.mv (t 0)),
   d 32 (.nc (t 31)),
   d 33 (.fa (t 32) 0),
   d 34 (.ld none (t 33)),
   d 35 (.len (t 34)),
   d 36 (.bin .lss (t 30) (t 35))])
  (.cond (t 36) (.seq (.rg [d 37 (.mv (t 0)),
   d 38 (.nc (t 37)),
   d 39 (.fa (t 38) 0),
   d 40 (.ld none (t 39)),
   d 41 (.mv (t 5)),
   d 42 (.ia (t 40) (t 41) 1),
   d 43 (.ld none (t 42)),
   d 44 (.conv .i64 (t 43)),
   d 45 (.mv (t 1)),
   d 46 (.bin .rem (t 44) (t 45)),
   d 4 (.mv (t 46))])
  (.ret)) (.skip)))
  (.seq (.dr [] (ots [(0, d 47 (.mv (t 0))),
   (1, d 48 (.nc (t 47))),
   (2, d 49 (.fa (t 48) 0)),
   (3, d 50 (.ld none (t 49))),
   (4, d 51 (.mv (t 5))),
   (5, d 52 (.mv (t 0))),
   (6, d 53 (.nc (t 52))),
   (7, d 54 (.fa (t 53) 0)),
   (8, d 55 (.ld none (t 54))),
   (9, d 56 (.len (t 55))),
   (10, d 57 (.bin .rem (t 51) (t 56))),
   (11, d 58 (.ia (t 50) (t 57) 1)),
   (12, d 59 (.ld none (t 58))),
   (13, d 60 (.conv .i64 (t 59))),
   (14, d 61 (.bin .mul (t 60) (n 131))),
   (15, d 62 (.mv (t 0))),
   (16, d 63 (.nc (t 62))),
   (17, d 64 (.fa (t 63) 0)),
   (18, d 65 (.ld none (t 64))),
   (19, d 66 (.mv (t 5))),
   (20, d 67 (.bin .mul (t 66) (n 7))),
   (21, d 68 (.bin .add (t 67) (n 3))),
   (22, d 69 (.mv (t 0))),
   (23, d 70 (.nc (t 69))),
   (24, d 71 (.fa (t 70) 0)),
   (25, d 72 (.ld none (t 71))),
   (26, d 73 (.len (t 72))),
   (27, d 74 (.bin .rem (t 68) (t 73))),
   (28, d 75 (.ia (t 65) (t 74) 1)),
   (29, d 76 (.ld none (t 75))),
   (30, d 77 (.conv .i64 (t 76))),
   (31, d 78 (.bin .mul (t 77) (n 1117))),
   (32, d 79 (.bin .add (t 61) (t 78))),
   (33, d 80 (.mv (t 5))),
   (34, d 81 (.bin .mul (t 80) (n 29))),
   (35, d 82 (.bin .add (t 79) (t 81))),
   (36, d 83 (.mv (t 5))),
   (37, d 84 (.mv (t 0))),
   (38, d 85 (.nc (t 84))),
   (39, d 86 (.fa (t 85) 0)),
   (40, d 87 (.ld none (t 86))),
   (41, d 88 (.len (t 87))),
   (42, d 89 (.bin .quo (t 83) (t 88))),
   (43, d 90 (.bin .mul (t 89) (n 53))),
   (44, d 91 (.bin .add (t 82) (t 90))),
   (45, d 6 (.mv (t 91)))] .fin))
  (.seq (.rg [d 92 (.mv (t 6)),
   d 93 (.mv (t 6)),
   d 94 (.bin .quo (t 93) (n 64)),
   d 95 (.bin .xor (t 92) (t 94)),
   d 6 (.mv (t 95))])
  (.seq (.rg [d 96 (.mv (t 6)),
   d 97 (.mv (t 1)),
   d 98 (.bin .rem (t 96) (t 97)),
   d 4 (.mv (t 98))])
  (.ret)))))))),
  [.t 4]⟩
theorem k125 : compFn Try.prog [] [(7, [], its [0, 1, 2, 3, 4, 5, 6, 7, 8, 9, 10, 11, 12, 13, 14, 15, 16, 17, 18, 19, 20, 21, 22, 23, 24, 25, 26, 27, 28, 29, 30, 31, 32, 33, 34, 35, 36, 37, 38, 39, 40, 41, 42, 43, 44, 45] .fin)] Try.f125 = some c125 := by kernel_rfl

/-- (*spec.reader).one -/
def c192 : Cd := ⟨.seq (.rg [d 4 (.mv (n 0))])
  (.seq (.rg [d 5 (.mv (t 1)),
   d 6 (.mv (t 0)),
   d 7 (.mv (t 1)),
   d 8 (.len (t 7)),
   d 9 (.call 125 [t 6, t 8]),
   d 10 (.ia (t 5) (t 9) 1),
   d 11 (.ld none (t 10)),
   d 4 (.mv (t 11))])
  (.ret)),
  [.t 4]⟩
theorem k192 : compFn Try.prog [] [] Try.f192 = some c192 := by kernel_rfl

/-- spec.randomRow -/
def c144 : Cd := ⟨.seq (.rg [d 4 (.mv (.const (.slice none 0 0)))])
  (.seq (.rg [d 7 (.bs 3 1 0 [] []),
   d 5 (.mv (t 7))])
  (.seq (.seq (.rg [d 6 (.mv (n 0))])
  (.block 0 (.loop (.seq (.seq (.rg [d 8 (.mv (t 6)),
   d 9 (.mv (t 1)),
   d 10 (.bin .lss (t 8) (t 9))])
  (.cond (t 10) (.skip) (.exit 0)))
  (.seq (.block 1 (.rg [d 13 (.mv (t 5)),
   d 14 (.mv (t 0)),
   d 15 (.call 125 [t 14, n 4]),
   d 16 (.bs 3 1 1 [.int .i64 0] [(0, t 15)]),
   d 17 (.ap 3 1 8 [.int .i64 0] (t 13) (t 16)),
   d 5 (.mv (t 17))]))
  (.rg [d 11 (.mv (t 6)),
   d 12 (.bin .add (t 11) (n 1)),
   d 6 (.mv (t 12))]))))))
  (.seq (.rg [d 18 (.mv (t 5)),
   d 4 (.mv (t 18))])
  (.ret)))),
  [.t 4]⟩
theorem k144 : compFn Try.prog [] [] Try.f144 = some c144 := by kernel_rfl

/-- spec.randomZSet -/
def c186 : Cd := ⟨.seq (.rg [d 6 (.mv (.const (.slice none 0 0)))])
  (.seq (.rg [d 9 (.bs 40 2 0 [] []),
   d 7 (.mv (t 9))])
  (.seq (.seq (.rg [d 10 (.mv (t 0)),
   d 11 (.mv (t 2)),
   d 12 (.bin .add (t 11) (n 1)),
   d 13 (.call 125 [t 10, t 12]),
   d 8 (.mv (t 13))])
  (.block 0 (.loop (.seq (.seq (.rg [d 14 (.mv (t 8)),
   d 15 (.bin .gtr (t 14) (n 0))])
  (.cond (t 15) (.skip) (.exit 0)))
  (.seq (.block 1 (.rg [d 18 (.mv (t 7)),
   d 19 (.mv (t 0)),
   d 20 (.mv (t 1)),
   d 21 (.call 144 [t 19, t 20]),
   d 22 (.mv (t 0)),
   d 23 (.bs 3 1 4 [.int .i64 0, .int .i64 0, .int .i64 0, .int .i64 0] [(0, n 1), (1, n 1), (2, n 2), (3, n (-1))]),
   d 24 (.call 192 [t 22, t 23]),
   d 25 (.call 196 [t 18, t 21, t 24]),
   d 7 (.mv (t 25))]))
  (.rg [d 16 (.mv (t 8)),
   d 17 (.bin .sub (t 16) (n 1)),
   d 8 (.mv (t 17))]))))))
  (.seq (.rg [d 26 (.mv (t 7)),
   d 27 (.call 198 [t 26]),
   d 6 (.mv (t 27))])
  (.ret)))),
  [.t 6]⟩
theorem k186 : compFn Try.prog [] [] Try.f186 = some c186 := by kernel_rfl

/-- spec.damage -/
def c145 : Cd := ⟨.seq (.rg [d 4 (.mv (.const (.slice none 0 0)))])
  (.seq (.seq (.rg [d 6 (.mv (t 1)),
   d 7 (.len (t 6)),
   d 8 (.bin .eql (t 7) (n 0))])
  (.cond (t 8) (.seq (.rg [d 9 (.mv (t 1)),
   d 4 (.mv (t 9))])
  (.ret)) (.skip)))
  (.seq (.rg [d 10 (.mv (t 0)),
   d 11 (.mv (t 1)),
   d 12 (.len (t 11)),
   d 13 (.call 125 [t 10, t 12]),
   d 5 (.mv (t 13))])
  (.seq (.seq (.rg [d 14 (.mv (t 0)),
   d 15 (.call 125 [t 14, n 5])])
  (.block 0 (.seq (.rg [d 22 (.bin .eql (t 15) (n 0)),
   d 21 (.mv (t 22))])
  (.cond (t 21) (.rg [d 23 (.mv (t 1)),
   d 24 (.mv (t 5)),
   d 25 (.mv (t 0)),
   d 26 (.bs 3 1 4 [.int .i64 0, .int .i64 0, .int .i64 0, .int .i64 0] [(0, n 0), (1, n 1000001), (2, n (-1000001)), (3, n 1000000)]),
   d 27 (.call 192 [t 25, t 26]),
   d 28 (.ia (t 23) (t 24) 2),
   d 29 (.fa (t 28) 1),
   x (.st 1 (t 29) (t 27))]) (.seq (.rg [d 31 (.bin .eql (t 15) (n 1)),
   d 30 (.mv (t 31))])
  (.cond (t 30) (.rg [d 32 (.mv (t 1)),
   d 33 (.mv (t 5)),
   d 34 (.mv (t 1)),
   d 35 (.mv (t 5)),
   d 36 (.ia (t 34) (t 35) 2),
   d 37 (.fa (t 36) 0),
   d 38 (.ld none (t 37)),
   d 39 (.call 189 [t 38]),
   d 40 (.bs 3 1 1 [.int .i64 0] [(0, n 1)]),
   d 41 (.ap 3 1 8 [.int .i64 0] (t 39) (t 40)),
   d 42 (.ia (t 32) (t 33) 2),
   d 43 (.fa (t 42) 0),
   x (.st 1 (t 43) (t 41))]) (.seq (.rg [d 45 (.bin .eql (t 15) (n 2)),
   d 44 (.mv (t 45))])
  (.cond (t 44) (.seq (.rg [d 46 (.mv (t 1)),
   d 47 (.mv (t 1)),
   d 48 (.mv (t 5)),
   d 49 (.ia (t 47) (t 48) 2),
   d 50 (.ld (some 2) (t 49)),
   d 51 (.call 190 [t 50]),
   d 52 (.bs 40 2 1 [.slice none 0 0, .int .i64 0] [(0, t 51)]),
   d 53 (.ap 40 2 32 [.slice none 0 0, .int .i64 0] (t 46) (t 52)),
   d 4 (.mv (t 53))])
  (.ret)) (.seq (.rg [d 55 (.bin .eql (t 15) (n 3)),
   d 54 (.mv (t 55))])
  (.cond (t 54) (.rg [d 56 (.mv (t 1)),
   d 57 (.mv (t 5)),
   d 58 (.bs 3 1 0 [] []),
   d 59 (.ia (t 56) (t 57) 2),
   d 60 (.fa (t 59) 0),
   x (.st 1 (t 60) (t 58))]) (.rg [d 16 (.mv (t 1)),
   d 17 (.mv (t 5)),
   d 18 (.bs 3 1 1 [.int .i64 0] [(0, n 10000)]),
   d 19 (.ia (t 16) (t 17) 2),
   d 20 (.fa (t 19) 0),
   x (.st 1 (t 20) (t 18))])))))))))))
  (.seq (.rg [d 61 (.mv (t 1)),
   d 4 (.mv (t 61))])
  (.ret))))),
  [.t 4]⟩
theorem k145 : compFn Try.prog [] [] Try.f145 = some c145 := by kernel_rfl

/-- spec.anyZSet -/
def c124 : Cd := ⟨.seq (.rg [d 4 (.mv (.const (.slice none 0 0)))])
  (.seq (.rg [d 6 (.mv (t 0)),
   d 7 (.mv (t 1)),
   d 8 (.call 186 [t 6, t 7, n 8]),
   d 5 (.mv (t 8))])
  (.seq (.seq (.rg [d 9 (.mv (t 0)),
   d 10 (.call 125 [t 9, n 14]),
   d 11 (.bin .eql (t 10) (n 0))])
  (.cond (t 11) (.seq (.rg [d 12 (.mv (t 0)),
   d 13 (.mv (t 5)),
   d 14 (.call 145 [t 12, t 13]),
   d 4 (.mv (t 14))])
  (.ret)) (.skip)))
  (.seq (.rg [d 15 (.mv (t 5)),
   d 4 (.mv (t 15))])
  (.ret)))),
  [.t 4]⟩
theorem k124 : compFn Try.prog [] [] Try.f124 = some c124 := by kernel_rfl

/-- spec.DrawNegate -/
def c38 : Cd := ⟨.seq (.rg [d 2 (.mv (.const (.slice none 0 0)))])
  (.seq (.rg [d 4 (.mv (t 0)),
   d 5 (.call 123 [t 4]),
   d 3 (.mv (t 5))])
  (.seq (.rg [d 6 (.mv (t 3)),
   d 7 (.mv (t 3)),
   d 8 (.call 125 [t 7, n 3]),
   d 9 (.bin .add (n 1) (t 8)),
   d 10 (.call 124 [t 6, t 9]),
   d 2 (.mv (t 10))])
  (.ret))),
  [.t 2]⟩
theorem k38 : compFn Try.prog [] [] Try.f38 = some c38 := by kernel_rfl

/-- spec.DrawDistinct -/
def c44 : Cd := ⟨.seq (.rg [d 2 (.mv (.const (.slice none 0 0)))])
  (.seq (.rg [d 3 (.mv (t 0)),
   d 4 (.call 38 [t 3]),
   d 2 (.mv (t 4))])
  (.ret)),
  [.t 2]⟩
theorem k44 : compFn Try.prog [] [] Try.f44 = some c44 := by kernel_rfl
end Go.Proofs.Ytkbgdjpdmhnniaa
