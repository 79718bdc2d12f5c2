/- The walker's form of Go functions, printed by a program of this repo (wip/vc/tools/gen.py), each with the check that it is the loaded program's own. No condition. -/
import Derived.Test.YtkbgdjpdmhnniaaProg
import Derived.Test.YtkbgdjpdmhnniaaVcA
namespace Go.Proofs.Ytkbgdjpdmhnniaa
open Go Go.Vc Go.Proofs
set_option maxRecDepth 100000
/-- impl.ValidPredicate -/
def c66 : Cd := ⟨.seq (.rg [d 2 (.bx false 47 (t 0)),
   d 4 (.mv (.const (.bool false)))])
  (.seq (.rg [d 5 (.mv (t 1)),
   d 6 (.bin .geq (t 5) (n 1)),
   d 7 (.mv (t 6)),
   g (some 8) 7 true (.mv (t 1)),
   g (some 9) 7 true (.bin .leq (t 8) (n 6)),
   d 10 (.pick (t 7) (t 9) (.const (.bool false))),
   d 11 (.mv (t 10)),
   g (some 12) 11 true (.fa (t 2) 0),
   g (some 13) 11 true (.ld none (t 12)),
   g (some 14) 11 true (.bin .geq (t 13) (n 0)),
   d 15 (.pick (t 11) (t 14) (.const (.bool false))),
   d 16 (.mv (t 15)),
   g (some 17) 16 true (.fa (t 2) 0),
   g (some 18) 16 true (.ld none (t 17)),
   g (some 19) 16 true (.mv (t 1)),
   g (some 20) 16 true (.bin .lss (t 18) (t 19)),
   d 21 (.pick (t 16) (t 20) (.const (.bool false))),
   d 22 (.mv (t 21)),
   g (some 23) 22 true (.fa (t 2) 1),
   g (some 24) 22 true (.ld none (t 23)),
   g (some 25) 22 true (.bin .geq (t 24) (n 1)),
   d 26 (.pick (t 22) (t 25) (.const (.bool false))),
   d 27 (.mv (t 26)),
   g (some 28) 27 true (.fa (t 2) 1),
   g (some 29) 27 true (.ld none (t 28)),
   g (some 30) 27 true (.bin .leq (t 29) (n 4)),
   d 31 (.pick (t 27) (t 30) (.const (.bool false))),
   d 32 (.mv (t 31)),
   g (some 33) 32 true (.fa (t 2) 2),
   g (some 34) 32 true (.ld none (t 33)),
   g (some 35) 32 true (.bin .geq (t 34) (n (-9999))),
   d 36 (.pick (t 32) (t 35) (.const (.bool false))),
   d 37 (.mv (t 36)),
   g (some 38) 37 true (.fa (t 2) 2),
   g (some 39) 37 true (.ld none (t 38)),
   g (some 40) 37 true (.bin .leq (t 39) (n 9999)),
   d 41 (.pick (t 37) (t 40) (.const (.bool false))),
   d 4 (.mv (t 41))])
  (.ret)),
  [.t 4]⟩
theorem k66 : compFn Try.prog [] [] Try.f66 = some c66 := by kernel_rfl

/-- spec.validPredicate -/
def c134 : Cd := ⟨.seq (.rg [d 2 (.bx false 47 (t 0)),
   d 4 (.mv (.const (.bool false)))])
  (.seq (.rg [d 5 (.fa (t 2) 0),
   d 6 (.ld none (t 5)),
   d 7 (.mv (t 1)),
   d 8 (.bin .sub (t 7) (n 1)),
   d 9 (.call 148 [t 6, n 0, t 8]),
   d 10 (.mv (t 9)),
   g (some 11) 10 true (.fa (t 2) 1),
   g (some 12) 10 true (.ld none (t 11)),
   g (some 13) 10 true (.call 148 [t 12, n 1, n 4]),
   d 14 (.pick (t 10) (t 13) (.const (.bool false))),
   d 15 (.mv (t 14)),
   g (some 16) 15 true (.fa (t 2) 2),
   g (some 17) 15 true (.ld none (t 16)),
   g (some 18) 15 true (.call 148 [t 17, n (-9999), n 9999]),
   d 19 (.pick (t 15) (t 18) (.const (.bool false))),
   d 4 (.mv (t 19))])
  (.ret)),
  [.t 4]⟩
theorem k134 : compFn Try.prog [] [] Try.f134 = some c134 := by kernel_rfl

/-- impl.satisfies -/
def c141 : Cd := ⟨.seq (.rg [d 3 (.bx false 47 (t 1)),
   d 4 (.mv (.const (.bool false)))])
  (.seq (.rg [d 6 (.mv (t 0)),
   d 7 (.fa (t 3) 0),
   d 8 (.ld none (t 7)),
   d 9 (.ia (t 6) (t 8) 1),
   d 10 (.ld none (t 9)),
   d 5 (.mv (t 10))])
  (.seq (.seq (.rg [d 11 (.fa (t 3) 1),
   d 12 (.ld none (t 11))])
  (.block 0 (.seq (.rg [d 14 (.bin .eql (t 12) (n 1)),
   d 13 (.mv (t 14))])
  (.cond (t 13) (.seq (.rg [d 15 (.mv (t 5)),
   d 16 (.fa (t 3) 2),
   d 17 (.ld none (t 16)),
   d 18 (.bin .eql (t 15) (t 17)),
   d 4 (.mv (t 18))])
  (.ret)) (.seq (.rg [d 20 (.bin .eql (t 12) (n 2)),
   d 19 (.mv (t 20))])
  (.cond (t 19) (.seq (.rg [d 21 (.mv (t 5)),
   d 22 (.fa (t 3) 2),
   d 23 (.ld none (t 22)),
   d 24 (.bin .lss (t 21) (t 23)),
   d 4 (.mv (t 24))])
  (.ret)) (.seq (.rg [d 26 (.bin .eql (t 12) (n 3)),
   d 25 (.mv (t 26))])
  (.cond (t 25) (.seq (.rg [d 27 (.mv (t 5)),
   d 28 (.fa (t 3) 2),
   d 29 (.ld none (t 28)),
   d 30 (.bin .gtr (t 27) (t 29)),
   d 4 (.mv (t 30))])
  (.ret)) (.skip)))))))))
  (.seq (.rg [d 31 (.mv (t 5)),
   d 32 (.fa (t 3) 2),
   d 33 (.ld none (t 32)),
   d 34 (.bin .neq (t 31) (t 33)),
   d 4 (.mv (t 34))])
  (.ret)))),
  [.t 4]⟩
theorem k141 : compFn Try.prog [] [] Try.f141 = some c141 := by kernel_rfl

/-- spec.holds -/
def c164 : Cd := ⟨.seq (.rg [d 2 (.bx false 47 (t 0)),
   d 4 (.mv (.const (.bool false)))])
  (.seq (.rg [d 6 (.mv (t 1)),
   d 7 (.fa (t 2) 0),
   d 8 (.ld none (t 7)),
   d 9 (.ia (t 6) (t 8) 1),
   d 10 (.ld none (t 9)),
   d 5 (.mv (t 10))])
  (.seq (.seq (.rg [d 11 (.fa (t 2) 1),
   d 12 (.ld none (t 11))])
  (.block 0 (.seq (.rg [d 14 (.bin .eql (t 12) (n 1)),
   d 13 (.mv (t 14))])
  (.cond (t 13) (.seq (.rg [d 15 (.mv (t 5)),
   d 16 (.fa (t 2) 2),
   d 17 (.ld none (t 16)),
   d 18 (.bin .eql (t 15) (t 17)),
   d 4 (.mv (t 18))])
  (.ret)) (.seq (.rg [d 20 (.bin .eql (t 12) (n 2)),
   d 19 (.mv (t 20))])
  (.cond (t 19) (.seq (.rg [d 21 (.mv (t 5)),
   d 22 (.fa (t 2) 2),
   d 23 (.ld none (t 22)),
   d 24 (.bin .lss (t 21) (t 23)),
   d 4 (.mv (t 24))])
  (.ret)) (.seq (.rg [d 26 (.bin .eql (t 12) (n 3)),
   d 25 (.mv (t 26))])
  (.cond (t 25) (.seq (.rg [d 27 (.mv (t 5)),
   d 28 (.fa (t 2) 2),
   d 29 (.ld none (t 28)),
   d 30 (.bin .gtr (t 27) (t 29)),
   d 4 (.mv (t 30))])
  (.ret)) (.skip)))))))))
  (.seq (.rg [d 31 (.mv (t 5)),
   d 32 (.fa (t 2) 2),
   d 33 (.ld none (t 32)),
   d 34 (.bin .neq (t 31) (t 33)),
   d 4 (.mv (t 34))])
  (.ret)))),
  [.t 4]⟩
theorem k164 : compFn Try.prog [] [] Try.f164 = some c164 := by kernel_rfl

/-- impl.Filter$1 -/
def c140 : Cd := ⟨.seq (.rg [d 2 (.bx false 40 (t 0)),
   d 3 (.mv (.const (.bool false)))])
  (.seq (.rg [d 4 (.fa (t 2) 0),
   d 5 (.ld none (t 4)),
   d 6 (.ld (some 3) (t 1)),
   d 7 (.call 141 [t 5, t 6]),
   d 8 (.un .not (t 7)),
   d 3 (.mv (t 8))])
  (.ret)),
  [.t 3]⟩
theorem k140 : compFn Try.prog [] [] Try.f140 = some c140 := by kernel_rfl

/-- slices.IndexFunc[[]impl.Entry,impl.Entry] -/
def c191 : Cd := ⟨.seq (.rg [d 4 (.mv (n 0))])
  (.seq (.seq (.rg [d 6 (.mv (t 0)),
   d 7 (.len (t 6)),
   d 8 (.mv (n 0))])
  (.block 0 (.loop (.seq (.rg [d 9 (.bin .lss (t 8) (t 7))])
  (.seq (.cond (t 9) (.skip) (.exit 0))
  (.seq (.block 1 (.seq (.rg [d 10 (.mv (t 8)),
   d 5 (.mv (t 10))])
  (.seq (.rg [d 11 (.mv (t 1)),
   d 12 (.mv (t 0)),
   d 13 (.mv (t 5)),
   d 14 (.ia (t 12) (t 13) 2),
   d 15 (.ld (some 2) (t 14)),
   d 16 (.cv (t 11) [t 15])])
  (.cond (t 16) (.seq (.rg [d 17 (.mv (t 5)),
   d 4 (.mv (t 17))])
  (.ret)) (.skip)))))
  (.rg [d 18 (.bin .add (t 8) (n 1)),
   d 8 (.mv (t 18))])))))))
  (.seq (.rg [d 4 (.mv (n (-1)))])
  (.ret))),
  [.t 4]⟩
theorem k191 : compFn Try.prog [] [] Try.f191 = some c191 := by kernel_rfl

/-- slices.DeleteFunc[[]impl.Entry,impl.Entry] -/
def c139 : Cd := ⟨.seq (.rg [d 4 (.mv (.const (.slice none 0 0)))])
  (.seq (.rg [d 8 (.mv (t 0)),
   d 9 (.mv (t 1)),
   d 10 (.call 191 [t 8, t 9]),
   d 5 (.mv (t 10))])
  (.seq (.seq (.rg [d 11 (.mv (t 5)),
   d 12 (.bin .eql (t 11) (n (-1)))])
  (.cond (t 12) (.seq (.rg [d 13 (.mv (t 0)),
   d 4 (.mv (t 13))])
  (.ret)) (.skip)))
  (.seq (.seq (.rg [d 14 (.mv (t 5)),
   d 15 (.bin .add (t 14) (n 1)),
   d 6 (.mv (t 15))])
  (.block 0 (.loop (.seq (.seq (.rg [d 16 (.mv (t 6)),
   d 17 (.mv (t 0)),
   d 18 (.len (t 17)),
   d 19 (.bin .lss (t 16) (t 18))])
  (.cond (t 19) (.skip) (.exit 0)))
  (.seq (.block 1 (.seq (.rg [d 22 (.mv (t 0)),
   d 23 (.mv (t 6)),
   d 24 (.ia (t 22) (t 23) 2),
   d 25 (.ld (some 2) (t 24)),
   d 7 (.al false 40 [.slice none 0 0, .int .i64 0]),
   x (.st 2 (t 7) (t 25))])
  (.seq (.rg [d 26 (.mv (t 1)),
   d 27 (.ld (some 2) (t 7)),
   d 28 (.cv (t 26) [t 27]),
   d 29 (.un .not (t 28))])
  (.cond (t 29) (.seq (.rg [d 30 (.mv (t 0)),
   d 31 (.mv (t 5)),
   d 32 (.ld (some 2) (t 7)),
   d 33 (.ia (t 30) (t 31) 2),
   x (.st 2 (t 33) (t 32))])
  (.rg [d 34 (.mv (t 5)),
   d 35 (.bin .add (t 34) (n 1)),
   d 5 (.mv (t 35))])) (.skip)))))
  (.rg [d 20 (.mv (t 6)),
   d 21 (.bin .add (t 20) (n 1)),
   d 6 (.mv (t 21))]))))))
  (.seq (.rg [d 36 (.mv (t 0)),
   d 37 (.mv (t 5)),
   d 38 (.sl (t 36) (some (t 37)) none 2),
   x (.clr 2 [.slice none 0 0, .int .i64 0] (t 38))])
  (.seq (.rg [d 39 (.mv (t 0)),
   d 40 (.mv (t 5)),
   d 41 (.sl (t 39) none (some (t 40)) 2),
   d 4 (.mv (t 41))])
  (.ret)))))),
  [.t 4]⟩
theorem k139 : compFn Try.prog [] [] Try.f139 = some c139 := by kernel_rfl

/-- impl.Filter -/
def c53 : Cd := ⟨.seq (.rg [d 3 (.bx true 47 (t 1)),
   d 4 (.mv (.const (.slice none 0 0)))])
  (.seq (.seq (.dr [1, 6] (ots [(0, d 5 (.mv (t 0))),
   (1, d 6 (.call 42 [t 5])),
   (2, d 7 (.un .not (t 6))),
   (3, d 8 (.mv (t 7))),
   (4, g (some 9) 8 false (.ld (some 3) (t 3))),
   (5, g (some 10) 8 false (.mv (t 0))),
   (6, g (some 11) 8 false (.call 138 [t 10])),
   (7, g (some 12) 8 false (.call 66 [t 9, t 11])),
   (8, g (some 13) 8 false (.un .not (t 12))),
   (9, d 14 (.pick (t 8) (.const (.bool true)) (t 13)))] .fin))
  (.cond (t 14) (.seq (.rg [d 4 (.mv (.const (.slice none 0 0)))])
  (.ret)) (.skip)))
  (.seq (.rg [d 15 (.mv (t 0)),
   d 16 (.call 126 [t 15]),
   d 17 (.mf 140 [t 3]),
   d 18 (.call 139 [t 16, t 17]),
   d 4 (.mv (t 18))])
  (.ret))),
  [.t 4]⟩
theorem k53 : compFn Try.prog [3] [(1, [1, 6], its [0, 1, 2, 3, 4, 5, 6, 7, 8, 9] .fin)] Try.f53 = some c53 := by kernel_rfl

/-- spec.filter -/
def c136 : Cd := ⟨.seq (.rg [d 3 (.bx false 47 (t 1)),
   d 4 (.mv (.const (.slice none 0 0)))])
  (.seq (.rg [d 7 (.bs 40 2 0 [] []),
   d 5 (.mv (t 7))])
  (.seq (.seq (.rg [d 6 (.mv (n 0))])
  (.block 0 (.loop (.seq (.seq (.rg [d 8 (.mv (t 6)),
   d 9 (.mv (t 0)),
   d 10 (.len (t 9)),
   d 11 (.bin .lss (t 8) (t 10))])
  (.cond (t 11) (.skip) (.exit 0)))
  (.seq (.block 1 (.seq (.dr [] (ots [(0, d 14 (.ld (some 3) (t 3))),
   (1, d 15 (.mv (t 0))),
   (2, d 16 (.mv (t 6))),
   (3, d 17 (.ia (t 15) (t 16) 2)),
   (4, d 18 (.fa (t 17) 0)),
   (5, d 19 (.ld none (t 18))),
   (6, d 20 (.call 164 [t 14, t 19]))] .fin))
  (.cond (t 20) (.rg [d 21 (.mv (t 5)),
   d 22 (.mv (t 0)),
   d 23 (.mv (t 6)),
   d 24 (.ia (t 22) (t 23) 2),
   d 25 (.ld (some 2) (t 24)),
   d 26 (.call 190 [t 25]),
   d 27 (.bs 40 2 1 [.slice none 0 0, .int .i64 0] [(0, t 26)]),
   d 28 (.ap 40 2 32 [.slice none 0 0, .int .i64 0] (t 21) (t 27)),
   d 5 (.mv (t 28))]) (.skip))))
  (.rg [d 12 (.mv (t 6)),
   d 13 (.bin .add (t 12) (n 1)),
   d 6 (.mv (t 13))]))))))
  (.seq (.rg [d 29 (.mv (t 5)),
   d 4 (.mv (t 29))])
  (.ret)))),
  [.t 4]⟩
theorem k136 : compFn Try.prog [] [(5, [], its [0, 1, 2, 3, 4, 5, 6] .fin)] Try.f136 = some c136 := by kernel_rfl

/-- spec.Filter -/
def c50 : Cd := ⟨.seq (.rg [d 3 (.bx false 47 (t 1)),
   d 4 (.mv (.const (.slice none 0 0)))])
  (.seq (.seq (.dr [1, 11] (ots [(0, d 5 (.mv (t 0))),
   (1, d 6 (.call 127 [t 5])),
   (2, d 7 (.un .not (t 6))),
   (3, d 8 (.mv (t 7))),
   (4, g (some 9) 8 false (.mv (t 0))),
   (5, g (some 10) 8 false (.len (t 9))),
   (6, g (some 11) 8 false (.bin .eql (t 10) (n 0))),
   (7, d 12 (.pick (t 8) (.const (.bool true)) (t 11))),
   (8, d 13 (.mv (t 12))),
   (9, g (some 14) 13 false (.ld (some 3) (t 3))),
   (10, g (some 15) 13 false (.mv (t 0))),
   (11, g (some 16) 13 false (.call 135 [t 15])),
   (12, g (some 17) 13 false (.call 134 [t 14, t 16])),
   (13, g (some 18) 13 false (.un .not (t 17))),
   (14, d 19 (.pick (t 13) (.const (.bool true)) (t 18)))] .fin))
  (.cond (t 19) (.seq (.rg [d 20 (.bs 40 2 0 [] []),
   d 4 (.mv (t 20))])
  (.ret)) (.skip)))
  (.seq (.rg [d 21 (.mv (t 0)),
   d 22 (.ld (some 3) (t 3)),
   d 23 (.call 136 [t 21, t 22]),
   d 4 (.mv (t 23))])
  (.ret))),
  [.t 4]⟩
theorem k50 : compFn Try.prog [] [(1, [1, 11], its [0, 1, 2, 3, 4, 5, 6, 7, 8, 9, 10, 11, 12, 13, 14] .fin)] Try.f50 = some c50 := by kernel_rfl
end Go.Proofs.Ytkbgdjpdmhnniaa
