/- The walker's form of Go functions, printed by a program of this repo (wip/vc/tools/gen.py), each with the check that it is the loaded program's own. No condition. -/
import Derived.Test.YtkbgdjpdmhnniaaProg
import Derived.Test.YtkbgdjpdmhnniaaVcA
namespace Go.Proofs.Ytkbgdjpdmhnniaa
open Go Go.Vc Go.Proofs
set_option maxRecDepth 100000
/-- spec.inRange -/
def c148 : Cd := ⟨.seq (.rg [d 6 (.mv (.const (.bool false)))])
  (.seq (.rg [d 7 (.mv (t 0)),
   d 8 (.mv (t 1)),
   d 9 (.bin .geq (t 7) (t 8)),
   d 10 (.mv (t 9)),
   g (some 11) 10 true (.mv (t 0)),
   g (some 12) 10 true (.mv (t 2)),
   g (some 13) 10 true (.bin .leq (t 11) (t 12)),
   d 14 (.pick (t 10) (t 13) (.const (.bool false))),
   d 6 (.mv (t 14))])
  (.ret)),
  [.t 6]⟩
theorem k148 : compFn Try.prog [] [] Try.f148 = some c148 := by kernel_rfl

/-- spec.validRow -/
def c147 : Cd := ⟨.seq (.rg [d 2 (.mv (.const (.bool false)))])
  (.seq (.seq (.rg [d 3 (.mv (n 0))])
  (.block 0 (.loop (.seq (.seq (.rg [d 4 (.mv (t 3)),
   d 5 (.mv (t 0)),
   d 6 (.len (t 5)),
   d 7 (.bin .lss (t 4) (t 6))])
  (.cond (t 7) (.skip) (.exit 0)))
  (.seq (.block 1 (.seq (.rg [d 10 (.mv (t 0)),
   d 11 (.mv (t 3)),
   d 12 (.ia (t 10) (t 11) 1),
   d 13 (.ld none (t 12)),
   d 14 (.call 148 [t 13, n (-9999), n 9999]),
   d 15 (.un .not (t 14))])
  (.cond (t 15) (.seq (.rg [d 2 (.mv (.const (.bool false)))])
  (.ret)) (.skip))))
  (.rg [d 8 (.mv (t 3)),
   d 9 (.bin .add (t 8) (n 1)),
   d 3 (.mv (t 9))]))))))
  (.seq (.rg [d 16 (.mv (t 0)),
   d 17 (.len (t 16)),
   d 18 (.call 148 [t 17, n 1, n 6]),
   d 2 (.mv (t 18))])
  (.ret))),
  [.t 2]⟩
theorem k147 : compFn Try.prog [] [] Try.f147 = some c147 := by kernel_rfl

/-- impl.ValidRow -/
def c120 : Cd := ⟨.seq (.rg [d 2 (.mv (.const (.bool false)))])
  (.seq (.seq (.rg [d 5 (.mv (t 0)),
   d 6 (.len (t 5)),
   d 7 (.mv (n 0))])
  (.block 0 (.loop (.seq (.rg [d 8 (.bin .lss (t 7) (t 6))])
  (.seq (.cond (t 8) (.skip) (.exit 0))
  (.seq (.block 1 (.seq (.rg [d 9 (.ia (t 5) (t 7) 1),
   d 10 (.ld none (t 9)),
   d 4 (.mv (t 10))])
  (.seq (.rg [d 11 (.mv (t 4)),
   d 12 (.bin .lss (t 11) (n (-9999))),
   d 13 (.mv (t 12)),
   g (some 14) 13 false (.mv (t 4)),
   g (some 15) 13 false (.bin .gtr (t 14) (n 9999)),
   d 16 (.pick (t 13) (.const (.bool true)) (t 15))])
  (.cond (t 16) (.seq (.rg [d 2 (.mv (.const (.bool false)))])
  (.ret)) (.skip)))))
  (.rg [d 17 (.bin .add (t 7) (n 1)),
   d 7 (.mv (t 17))])))))))
  (.seq (.rg [d 18 (.mv (t 0)),
   d 19 (.len (t 18)),
   d 20 (.bin .geq (t 19) (n 1)),
   d 21 (.mv (t 20)),
   g (some 22) 21 true (.mv (t 0)),
   g (some 23) 21 true (.len (t 22)),
   g (some 24) 21 true (.bin .leq (t 23) (n 6)),
   d 25 (.pick (t 21) (t 24) (.const (.bool false))),
   d 2 (.mv (t 25))])
  (.ret))),
  [.t 2]⟩
theorem k120 : compFn Try.prog [] [] Try.f120 = some c120 := by kernel_rfl

/-- spec.rowLess -/
def c187 : Cd := ⟨.seq (.rg [d 4 (.mv (.const (.bool false)))])
  (.seq (.seq (.rg [d 5 (.mv (n 0))])
  (.block 0 (.loop (.seq (.seq (.rg [d 6 (.mv (t 5)),
   d 7 (.mv (t 0)),
   d 8 (.len (t 7)),
   d 9 (.bin .lss (t 6) (t 8)),
   d 10 (.mv (t 9)),
   g (some 11) 10 true (.mv (t 5)),
   g (some 12) 10 true (.mv (t 1)),
   g (some 13) 10 true (.len (t 12)),
   g (some 14) 10 true (.bin .lss (t 11) (t 13)),
   d 15 (.pick (t 10) (t 14) (.const (.bool false)))])
  (.cond (t 15) (.skip) (.exit 0)))
  (.seq (.block 1 (.seq (.dr [] (ots [(0, d 18 (.mv (t 0))),
   (1, d 19 (.mv (t 5))),
   (2, d 20 (.ia (t 18) (t 19) 1)),
   (3, d 21 (.ld none (t 20))),
   (4, d 22 (.mv (t 1))),
   (5, d 23 (.mv (t 5))),
   (6, d 24 (.ia (t 22) (t 23) 1)),
   (7, d 25 (.ld none (t 24))),
   (8, d 26 (.bin .neq (t 21) (t 25)))] .fin))
  (.cond (t 26) (.seq (.dr [] (ots [(0, d 27 (.mv (t 0))),
   (1, d 28 (.mv (t 5))),
   (2, d 29 (.ia (t 27) (t 28) 1)),
   (3, d 30 (.ld none (t 29))),
   (4, d 31 (.mv (t 1))),
   (5, d 32 (.mv (t 5))),
   (6, d 33 (.ia (t 31) (t 32) 1)),
   (7, d 34 (.ld none (t 33))),
   (8, d 35 (.bin .lss (t 30) (t 34))),
   (9, d 4 (.mv (t 35)))] .fin))
  (.ret)) (.skip))))
  (.rg [d 16 (.mv (t 5)),
   d 17 (.bin .add (t 16) (n 1)),
   d 5 (.mv (t 17))]))))))
  (.seq (.rg [d 36 (.mv (t 0)),
   d 37 (.len (t 36)),
   d 38 (.mv (t 1)),
   d 39 (.len (t 38)),
   d 40 (.bin .lss (t 37) (t 39)),
   d 4 (.mv (t 40))])
  (.ret))),
  [.t 4]⟩
theorem k187 : compFn Try.prog [] [(4, [], its [0, 1, 2, 3, 4, 5, 6, 7, 8] .fin), (5, [], its [0, 1, 2, 3, 4, 5, 6, 7, 8, 9] .fin)] Try.f187 = some c187 := by kernel_rfl

/-- slices.Compare[[]int,int] -/
def c185 : Cd := ⟨.seq (.rg [d 4 (.mv (n 0))])
  (.seq (.seq (.rg [d 9 (.mv (t 0)),
   d 10 (.len (t 9)),
   d 11 (.mv (n 0))])
  (.block 0 (.loop (.seq (.rg [d 12 (.bin .lss (t 11) (t 10))])
  (.seq (.cond (t 12) (.skip) (.exit 0))
  (.seq (.block 1 (.seq (.rg [d 13 (.mv (t 11)),
   d 14 (.ia (t 9) (t 11) 1),
   d 15 (.ld none (t 14)),
   d 5 (.mv (t 13)),
   d 6 (.mv (t 15))])
  (.seq (.seq (.rg [d 16 (.mv (t 5)),
   d 17 (.mv (t 1)),
   d 18 (.len (t 17)),
   d 19 (.bin .geq (t 16) (t 18))])
  (.cond (t 19) (.seq (.rg [d 4 (.mv (n 1))])
  (.ret)) (.skip)))
  (.seq (.rg [d 20 (.mv (t 1)),
   d 21 (.mv (t 5)),
   d 22 (.ia (t 20) (t 21) 1),
   d 23 (.ld none (t 22)),
   d 7 (.mv (t 23))])
  (.seq (.rg [d 24 (.mv (t 6)),
   d 25 (.mv (t 7)),
   d 26 (.call 215 [t 24, t 25]),
   d 8 (.mv (t 26))])
  (.seq (.rg [d 27 (.mv (t 8)),
   d 28 (.bin .neq (t 27) (n 0))])
  (.cond (t 28) (.seq (.rg [d 29 (.mv (t 8)),
   d 4 (.mv (t 29))])
  (.ret)) (.skip))))))))
  (.rg [d 30 (.bin .add (t 11) (n 1)),
   d 11 (.mv (t 30))])))))))
  (.seq (.seq (.rg [d 31 (.mv (t 0)),
   d 32 (.len (t 31)),
   d 33 (.mv (t 1)),
   d 34 (.len (t 33)),
   d 35 (.bin .lss (t 32) (t 34))])
  (.cond (t 35) (.seq (.rg [d 4 (.mv (n (-1)))])
  (.ret)) (.skip)))
  (.seq (.rg [d 4 (.mv (n 0))])
  (.ret)))),
  [.t 4]⟩
theorem k185 : compFn Try.prog [] [] Try.f185 = some c185 := by kernel_rfl

/-- cmp.Compare[int] -/
def c215 : Cd := ⟨.seq (.rg [d 4 (.mv (n 0))])
  (.seq (.rg [d 7 (.mv (t 0)),
   d 8 (.call 231 [t 7]),
   d 5 (.mv (t 8))])
  (.seq (.rg [d 9 (.mv (t 1)),
   d 10 (.call 231 [t 9]),
   d 6 (.mv (t 10))])
  (.seq (.seq (.rg [d 11 (.mv (t 5))])
  (.cond (t 11) (.seq (.seq (.rg [d 12 (.mv (t 6))])
  (.cond (t 12) (.seq (.rg [d 4 (.mv (n 0))])
  (.ret)) (.skip)))
  (.seq (.rg [d 4 (.mv (n (-1)))])
  (.ret))) (.skip)))
  (.seq (.seq (.rg [d 13 (.mv (t 6))])
  (.cond (t 13) (.seq (.rg [d 4 (.mv (n 1))])
  (.ret)) (.skip)))
  (.seq (.seq (.rg [d 14 (.mv (t 0)),
   d 15 (.mv (t 1)),
   d 16 (.bin .lss (t 14) (t 15))])
  (.cond (t 16) (.seq (.rg [d 4 (.mv (n (-1)))])
  (.ret)) (.skip)))
  (.seq (.seq (.rg [d 17 (.mv (t 0)),
   d 18 (.mv (t 1)),
   d 19 (.bin .gtr (t 17) (t 18))])
  (.cond (t 19) (.seq (.rg [d 4 (.mv (n 1))])
  (.ret)) (.skip)))
  (.seq (.rg [d 4 (.mv (n 0))])
  (.ret)))))))),
  [.t 4]⟩
theorem k215 : compFn Try.prog [] [] Try.f215 = some c215 := by kernel_rfl

/-- cmp.isNaN[int] -/
def c231 : Cd := ⟨.seq (.rg [d 2 (.mv (.const (.bool false)))])
  (.seq (.rg [d 3 (.mv (t 0)),
   d 4 (.mv (t 0)),
   d 5 (.bin .neq (t 3) (t 4)),
   d 2 (.mv (t 5))])
  (.ret)),
  [.t 2]⟩
theorem k231 : compFn Try.prog [] [] Try.f231 = some c231 := by kernel_rfl

/-- impl.RowLess -/
def c129 : Cd := ⟨.seq (.rg [d 4 (.mv (.const (.bool false)))])
  (.seq (.rg [d 5 (.mv (t 0)),
   d 6 (.mv (t 1)),
   d 7 (.call 185 [t 5, t 6]),
   d 8 (.bin .lss (t 7) (n 0)),
   d 4 (.mv (t 8))])
  (.ret)),
  [.t 4]⟩
theorem k129 : compFn Try.prog [] [] Try.f129 = some c129 := by kernel_rfl

/-- slices.Equal[[]int,int] -/
def c132 : Cd := ⟨.seq (.rg [d 4 (.mv (.const (.bool false)))])
  (.seq (.seq (.rg [d 6 (.mv (t 0)),
   d 7 (.len (t 6)),
   d 8 (.mv (t 1)),
   d 9 (.len (t 8)),
   d 10 (.bin .neq (t 7) (t 9))])
  (.cond (t 10) (.seq (.rg [d 4 (.mv (.const (.bool false)))])
  (.ret)) (.skip)))
  (.seq (.seq (.rg [d 11 (.mv (t 0)),
   d 12 (.len (t 11)),
   d 13 (.mv (n 0))])
  (.block 0 (.loop (.seq (.rg [d 14 (.bin .lss (t 13) (t 12))])
  (.seq (.cond (t 14) (.skip) (.exit 0))
  (.seq (.block 1 (.seq (.rg [d 15 (.mv (t 13)),
   d 5 (.mv (t 15))])
  (.seq (.dr [] (ots [(0, d 16 (.mv (t 0))),
   (1, d 17 (.mv (t 5))),
   (2, d 18 (.ia (t 16) (t 17) 1)),
   (3, d 19 (.ld none (t 18))),
   (4, d 20 (.mv (t 1))),
   (5, d 21 (.mv (t 5))),
   (6, d 22 (.ia (t 20) (t 21) 1)),
   (7, d 23 (.ld none (t 22))),
   (8, d 24 (.bin .neq (t 19) (t 23)))] .fin))
  (.cond (t 24) (.seq (.rg [d 4 (.mv (.const (.bool false)))])
  (.ret)) (.skip)))))
  (.rg [d 25 (.bin .add (t 13) (n 1)),
   d 13 (.mv (t 25))])))))))
  (.seq (.rg [d 4 (.mv (.const (.bool true)))])
  (.ret)))),
  [.t 4]⟩
theorem k132 : compFn Try.prog [] [(6, [], its [0, 1, 2, 3, 4, 5, 6, 7, 8] .fin)] Try.f132 = some c132 := by kernel_rfl

/-- laws.equalInts -/
def c60 : Cd := ⟨.seq (.rg [d 4 (.mv (.const (.bool false)))])
  (.seq (.seq (.rg [d 6 (.mv (t 0)),
   d 7 (.len (t 6)),
   d 8 (.mv (t 1)),
   d 9 (.len (t 8)),
   d 10 (.bin .neq (t 7) (t 9))])
  (.cond (t 10) (.seq (.rg [d 4 (.mv (.const (.bool false)))])
  (.ret)) (.skip)))
  (.seq (.seq (.rg [d 5 (.mv (n 0))])
  (.block 0 (.loop (.seq (.seq (.rg [d 11 (.mv (t 5)),
   d 12 (.mv (t 0)),
   d 13 (.len (t 12)),
   d 14 (.bin .lss (t 11) (t 13))])
  (.cond (t 14) (.skip) (.exit 0)))
  (.seq (.block 1 (.seq (.dr [] (ots [(0, d 17 (.mv (t 0))),
   (1, d 18 (.mv (t 5))),
   (2, d 19 (.ia (t 17) (t 18) 1)),
   (3, d 20 (.ld none (t 19))),
   (4, d 21 (.mv (t 1))),
   (5, d 22 (.mv (t 5))),
   (6, d 23 (.ia (t 21) (t 22) 1)),
   (7, d 24 (.ld none (t 23))),
   (8, d 25 (.bin .neq (t 20) (t 24)))] .fin))
  (.cond (t 25) (.seq (.rg [d 4 (.mv (.const (.bool false)))])
  (.ret)) (.skip))))
  (.rg [d 15 (.mv (t 5)),
   d 16 (.bin .add (t 15) (n 1)),
   d 5 (.mv (t 16))]))))))
  (.seq (.rg [d 4 (.mv (.const (.bool true)))])
  (.ret)))),
  [.t 4]⟩
theorem k60 : compFn Try.prog [] [(6, [], its [0, 1, 2, 3, 4, 5, 6, 7, 8] .fin)] Try.f60 = some c60 := by kernel_rfl

/-- laws.eqIntS -/
def c78 : Cd := ⟨.seq (.rg [d 4 (.mv (.const (.bool false)))])
  (.seq (.seq (.rg [d 6 (.mv (t 0)),
   d 7 (.len (t 6)),
   d 8 (.mv (t 1)),
   d 9 (.len (t 8)),
   d 10 (.bin .neq (t 7) (t 9))])
  (.cond (t 10) (.seq (.rg [d 4 (.mv (.const (.bool false)))])
  (.ret)) (.skip)))
  (.seq (.seq (.rg [d 5 (.mv (n 0))])
  (.block 0 (.loop (.seq (.seq (.rg [d 11 (.mv (t 5)),
   d 12 (.mv (t 0)),
   d 13 (.len (t 12)),
   d 14 (.bin .lss (t 11) (t 13))])
  (.cond (t 14) (.skip) (.exit 0)))
  (.seq (.block 1 (.seq (.dr [] (ots [(0, d 17 (.mv (t 0))),
   (1, d 18 (.mv (t 5))),
   (2, d 19 (.ia (t 17) (t 18) 1)),
   (3, d 20 (.ld none (t 19))),
   (4, d 21 (.mv (t 1))),
   (5, d 22 (.mv (t 5))),
   (6, d 23 (.ia (t 21) (t 22) 1)),
   (7, d 24 (.ld none (t 23))),
   (8, d 25 (.bin .neq (t 20) (t 24)))] .fin))
  (.cond (t 25) (.seq (.rg [d 4 (.mv (.const (.bool false)))])
  (.ret)) (.skip))))
  (.rg [d 15 (.mv (t 5)),
   d 16 (.bin .add (t 15) (n 1)),
   d 5 (.mv (t 16))]))))))
  (.seq (.rg [d 4 (.mv (.const (.bool true)))])
  (.ret)))),
  [.t 4]⟩
theorem k78 : compFn Try.prog [] [(6, [], its [0, 1, 2, 3, 4, 5, 6, 7, 8] .fin)] Try.f78 = some c78 := by kernel_rfl

/-- spec.equalInts -/
def c214 : Cd := ⟨.seq (.rg [d 4 (.mv (.const (.bool false)))])
  (.seq (.seq (.rg [d 6 (.mv (t 0)),
   d 7 (.len (t 6)),
   d 8 (.mv (t 1)),
   d 9 (.len (t 8)),
   d 10 (.bin .neq (t 7) (t 9))])
  (.cond (t 10) (.seq (.rg [d 4 (.mv (.const (.bool false)))])
  (.ret)) (.skip)))
  (.seq (.seq (.rg [d 5 (.mv (n 0))])
  (.block 0 (.loop (.seq (.seq (.rg [d 11 (.mv (t 5)),
   d 12 (.mv (t 0)),
   d 13 (.len (t 12)),
   d 14 (.bin .lss (t 11) (t 13))])
  (.cond (t 14) (.skip) (.exit 0)))
  (.seq (.block 1 (.seq (.dr [] (ots [(0, d 17 (.mv (t 0))),
   (1, d 18 (.mv (t 5))),
   (2, d 19 (.ia (t 17) (t 18) 1)),
   (3, d 20 (.ld none (t 19))),
   (4, d 21 (.mv (t 1))),
   (5, d 22 (.mv (t 5))),
   (6, d 23 (.ia (t 21) (t 22) 1)),
   (7, d 24 (.ld none (t 23))),
   (8, d 25 (.bin .neq (t 20) (t 24)))] .fin))
  (.cond (t 25) (.seq (.rg [d 4 (.mv (.const (.bool false)))])
  (.ret)) (.skip))))
  (.rg [d 15 (.mv (t 5)),
   d 16 (.bin .add (t 15) (n 1)),
   d 5 (.mv (t 16))]))))))
  (.seq (.rg [d 4 (.mv (.const (.bool true)))])
  (.ret)))),
  [.t 4]⟩
theorem k214 : compFn Try.prog [] [(6, [], its [0, 1, 2, 3, 4, 5, 6, 7, 8] .fin)] Try.f214 = some c214 := by kernel_rfl
end Go.Proofs.Ytkbgdjpdmhnniaa
