/- The walker's form of Go functions, printed by a program of this repo (wip/vc/tools/gen.py), each with the check that it is the loaded program's own. No condition. -/
import Derived.Test.YtkbgdjpdmhnniaaProg
import Derived.Test.YtkbgdjpdmhnniaaVcA
namespace Go.Proofs.Ytkbgdjpdmhnniaa
open Go Go.Vc Go.Proofs
set_option maxRecDepth 100000
/-- laws.eqEntry -/
def c142 : Cd := ⟨.seq (.rg [d 2 (.bx false 40 (t 0)),
   d 3 (.bx false 40 (t 1)),
   d 4 (.mv (.const (.bool false)))])
  (.seq (.seq (.rg [d 5 (.fa (t 2) 0),
   d 6 (.ld none (t 5)),
   d 7 (.fa (t 3) 0),
   d 8 (.ld none (t 7)),
   d 9 (.call 78 [t 6, t 8]),
   d 10 (.un .not (t 9))])
  (.cond (t 10) (.seq (.rg [d 4 (.mv (.const (.bool false)))])
  (.ret)) (.skip)))
  (.seq (.seq (.rg [d 11 (.fa (t 2) 1),
   d 12 (.ld none (t 11)),
   d 13 (.fa (t 3) 1),
   d 14 (.ld none (t 13)),
   d 15 (.bin .neq (t 12) (t 14))])
  (.cond (t 15) (.seq (.rg [d 4 (.mv (.const (.bool false)))])
  (.ret)) (.skip)))
  (.seq (.rg [d 4 (.mv (.const (.bool true)))])
  (.ret)))),
  [.t 4]⟩
theorem k142 : compFn Try.prog [] [] Try.f142 = some c142 := by kernel_rfl

/-- laws.eqEntryS -/
def c54 : Cd := ⟨.seq (.rg [d 4 (.mv (.const (.bool false)))])
  (.seq (.seq (.rg [d 6 (.mv (t 0)),
   d 7 (.len (t 6)),
   d 8 (.mv (t 1)),
   d 9 (.len (t 8)),
   d 10 (.bin .neq (t 7) (t 9))])
  (.cond (t 10) (.seq (.rg [d 4 (.mv (.const (.bool false)))])
  (.ret)) (.skip)))
  (.seq (.seq (.rg [d 5 (.mv (n 0))])
  (.block 0 (.loop (.seq (.seq (.rg [d 11 (.mv (t 5)),
   d 12 (.mv (t 0)),
   d 13 (.len (t 12)),
   d 14 (.bin .lss (t 11) (t 13))])
  (.cond (t 14) (.skip) (.exit 0)))
  (.seq (.block 1 (.seq (.dr [] (ots [(0, d 17 (.mv (t 0))),
   (1, d 18 (.mv (t 5))),
   (2, d 19 (.ia (t 17) (t 18) 2)),
   (3, d 20 (.ld (some 2) (t 19))),
   (4, d 21 (.mv (t 1))),
   (5, d 22 (.mv (t 5))),
   (6, d 23 (.ia (t 21) (t 22) 2)),
   (7, d 24 (.ld (some 2) (t 23))),
   (8, d 25 (.call 142 [t 20, t 24])),
   (9, d 26 (.un .not (t 25)))] .fin))
  (.cond (t 26) (.seq (.rg [d 4 (.mv (.const (.bool false)))])
  (.ret)) (.skip))))
  (.rg [d 15 (.mv (t 5)),
   d 16 (.bin .add (t 15) (n 1)),
   d 5 (.mv (t 16))]))))))
  (.seq (.rg [d 4 (.mv (.const (.bool true)))])
  (.ret)))),
  [.t 4]⟩
theorem k54 : compFn Try.prog [] [(6, [], its [0, 1, 2, 3, 4, 5, 6, 7, 8, 9] .fin)] Try.f54 = some c54 := by kernel_rfl

/-- laws.equalZSets -/
def c40 : Cd := ⟨.seq (.rg [d 4 (.mv (.const (.bool false)))])
  (.seq (.seq (.rg [d 6 (.mv (t 0)),
   d 7 (.len (t 6)),
   d 8 (.mv (t 1)),
   d 9 (.len (t 8)),
   d 10 (.bin .neq (t 7) (t 9))])
  (.cond (t 10) (.seq (.rg [d 4 (.mv (.const (.bool false)))])
  (.ret)) (.skip)))
  (.seq (.seq (.rg [d 5 (.mv (n 0))])
  (.block 0 (.loop (.seq (.seq (.rg [d 11 (.mv (t 5)),
   d 12 (.mv (t 0)),
   d 13 (.len (t 12)),
   d 14 (.bin .lss (t 11) (t 13))])
  (.cond (t 14) (.skip) (.exit 0)))
  (.seq (.block 1 (.seq (.dr [10] (ots [(0, d 17 (.mv (t 0))),
   (1, d 18 (.mv (t 5))),
   (2, d 19 (.ia (t 17) (t 18) 2)),
   (3, d 20 (.fa (t 19) 0)),
   (4, d 21 (.ld none (t 20))),
   (5, d 22 (.mv (t 1))),
   (6, d 23 (.mv (t 5))),
   (7, d 24 (.ia (t 22) (t 23) 2)),
   (8, d 25 (.fa (t 24) 0)),
   (9, d 26 (.ld none (t 25))),
   (10, d 27 (.call 60 [t 21, t 26])),
   (11, d 28 (.un .not (t 27))),
   (12, d 29 (.mv (t 28))),
   (13, g (some 30) 29 false (.mv (t 0))),
   (14, g (some 31) 29 false (.mv (t 5))),
   (15, g (some 32) 29 false (.ia (t 30) (t 31) 2)),
   (16, g (some 33) 29 false (.fa (t 32) 1)),
   (17, g (some 34) 29 false (.ld none (t 33))),
   (18, g (some 35) 29 false (.mv (t 1))),
   (19, g (some 36) 29 false (.mv (t 5))),
   (20, g (some 37) 29 false (.ia (t 35) (t 36) 2)),
   (21, g (some 38) 29 false (.fa (t 37) 1)),
   (22, g (some 39) 29 false (.ld none (t 38))),
   (23, g (some 40) 29 false (.bin .neq (t 34) (t 39))),
   (24, d 41 (.pick (t 29) (.const (.bool true)) (t 40)))] .fin))
  (.cond (t 41) (.seq (.rg [d 4 (.mv (.const (.bool false)))])
  (.ret)) (.skip))))
  (.rg [d 15 (.mv (t 5)),
   d 16 (.bin .add (t 15) (n 1)),
   d 5 (.mv (t 16))]))))))
  (.seq (.rg [d 4 (.mv (.const (.bool true)))])
  (.ret)))),
  [.t 4]⟩
theorem k40 : compFn Try.prog [] [(6, [10], its [0, 1, 2, 3, 4, 5, 6, 7, 8, 9, 10, 11, 12, 13, 14, 15, 16, 17, 18, 19, 20, 21, 22, 23, 24] .fin)] Try.f40 = some c40 := by kernel_rfl

/-- laws.szEntry -/
def c133 : Cd := ⟨.seq (.rg [d 2 (.bx false 122 (t 0)),
   d 4 (.mv (n 0))])
  (.seq (.rg [d 5 (.fa (t 2) 0),
   d 6 (.ld none (t 5)),
   d 7 (.mv (t 1)),
   d 8 (.call 183 [t 6, t 7]),
   d 1 (.mv (t 8))])
  (.seq (.seq (.rg [d 9 (.mv (t 1)),
   d 10 (.bin .lss (t 9) (n 0))])
  (.cond (t 10) (.seq (.rg [d 4 (.mv (n (-1)))])
  (.ret)) (.skip)))
  (.seq (.rg [d 11 (.mv (t 1)),
   d 4 (.mv (t 11))])
  (.ret)))),
  [.t 4]⟩
theorem k133 : compFn Try.prog [] [] Try.f133 = some c133 := by kernel_rfl

/-- laws.szEntryS -/
def c49 : Cd := ⟨.seq (.rg [d 4 (.mv (n 0))])
  (.seq (.rg [d 6 (.mv (t 1)),
   d 7 (.mv (t 0)),
   d 8 (.len (t 7)),
   d 9 (.bin .sub (t 6) (t 8)),
   d 1 (.mv (t 9))])
  (.seq (.seq (.rg [d 10 (.mv (t 1)),
   d 11 (.bin .lss (t 10) (n 0))])
  (.cond (t 11) (.seq (.rg [d 4 (.mv (n (-1)))])
  (.ret)) (.skip)))
  (.seq (.seq (.rg [d 5 (.mv (n 0))])
  (.block 0 (.loop (.seq (.seq (.rg [d 12 (.mv (t 5)),
   d 13 (.mv (t 0)),
   d 14 (.len (t 13)),
   d 15 (.bin .lss (t 12) (t 14))])
  (.cond (t 15) (.skip) (.exit 0)))
  (.seq (.block 1 (.seq (.rg [d 18 (.mv (t 0)),
   d 19 (.mv (t 5)),
   d 20 (.ia (t 18) (t 19) 2),
   d 21 (.ld (some 2) (t 20)),
   d 22 (.mv (t 1)),
   d 23 (.call 133 [t 21, t 22]),
   d 1 (.mv (t 23))])
  (.seq (.rg [d 24 (.mv (t 1)),
   d 25 (.bin .lss (t 24) (n 0))])
  (.cond (t 25) (.seq (.rg [d 4 (.mv (n (-1)))])
  (.ret)) (.skip)))))
  (.rg [d 16 (.mv (t 5)),
   d 17 (.bin .add (t 16) (n 1)),
   d 5 (.mv (t 17))]))))))
  (.seq (.rg [d 26 (.mv (t 1)),
   d 4 (.mv (t 26))])
  (.ret))))),
  [.t 4]⟩
theorem k49 : compFn Try.prog [] [] Try.f49 = some c49 := by kernel_rfl

/-- laws.szIntS -/
def c183 : Cd := ⟨.seq (.rg [d 4 (.mv (n 0))])
  (.seq (.rg [d 5 (.mv (t 1)),
   d 6 (.mv (t 0)),
   d 7 (.len (t 6)),
   d 8 (.bin .sub (t 5) (t 7)),
   d 1 (.mv (t 8))])
  (.seq (.seq (.rg [d 9 (.mv (t 1)),
   d 10 (.bin .lss (t 9) (n 0))])
  (.cond (t 10) (.seq (.rg [d 4 (.mv (n (-1)))])
  (.ret)) (.skip)))
  (.seq (.rg [d 11 (.mv (t 1)),
   d 4 (.mv (t 11))])
  (.ret)))),
  [.t 4]⟩
theorem k183 : compFn Try.prog [] [] Try.f183 = some c183 := by kernel_rfl

/-- laws.heldIntS -/
def c143 : Cd := ⟨.seq (.rg [d 4 (.mv (n 0))])
  (.seq (.seq (.rg [d 5 (.mv (n 0))])
  (.block 0 (.loop (.seq (.seq (.rg [d 6 (.mv (t 5)),
   d 7 (.mv (t 0)),
   d 8 (.len (t 7)),
   d 9 (.bin .lss (t 6) (t 8))])
  (.cond (t 9) (.skip) (.exit 0)))
  (.seq (.block 1 (.seq (.seq (.rg [d 12 (.mv (t 0)),
   d 13 (.mv (t 5)),
   d 14 (.ia (t 12) (t 13) 1),
   d 15 (.ld none (t 14)),
   d 16 (.mv (t 1)),
   d 17 (.bin .neq (t 15) (t 16))])
  (.cond (t 17) (.seq (.rg [d 4 (.mv (n (-1)))])
  (.ret)) (.skip)))
  (.rg [d 18 (.mv (t 1)),
   d 19 (.bin .add (t 18) (n 1)),
   d 1 (.mv (t 19))])))
  (.rg [d 10 (.mv (t 5)),
   d 11 (.bin .add (t 10) (n 1)),
   d 5 (.mv (t 11))]))))))
  (.seq (.rg [d 20 (.mv (t 1)),
   d 4 (.mv (t 20))])
  (.ret))),
  [.t 4]⟩
theorem k143 : compFn Try.prog [] [] Try.f143 = some c143 := by kernel_rfl

/-- laws.heldEntryS -/
def c56 : Cd := ⟨.seq (.rg [d 4 (.mv (n 0))])
  (.seq (.seq (.rg [d 5 (.mv (n 0))])
  (.block 0 (.loop (.seq (.seq (.rg [d 6 (.mv (t 5)),
   d 7 (.mv (t 0)),
   d 8 (.len (t 7)),
   d 9 (.bin .lss (t 6) (t 8))])
  (.cond (t 9) (.skip) (.exit 0)))
  (.seq (.block 1 (.seq (.rg [d 12 (.mv (t 0)),
   d 13 (.mv (t 5)),
   d 14 (.ia (t 12) (t 13) 2),
   d 15 (.fa (t 14) 0),
   d 16 (.ld none (t 15)),
   d 17 (.mv (t 1)),
   d 18 (.call 143 [t 16, t 17]),
   d 1 (.mv (t 18))])
  (.seq (.seq (.rg [d 19 (.mv (t 1)),
   d 20 (.bin .lss (t 19) (n 0))])
  (.cond (t 20) (.seq (.rg [d 4 (.mv (n (-1)))])
  (.ret)) (.skip)))
  (.seq (.seq (.rg [d 21 (.mv (t 0)),
   d 22 (.mv (t 5)),
   d 23 (.ia (t 21) (t 22) 2),
   d 24 (.fa (t 23) 1),
   d 25 (.ld none (t 24)),
   d 26 (.mv (t 1)),
   d 27 (.bin .neq (t 25) (t 26))])
  (.cond (t 27) (.seq (.rg [d 4 (.mv (n (-1)))])
  (.ret)) (.skip)))
  (.rg [d 28 (.mv (t 1)),
   d 29 (.bin .add (t 28) (n 1)),
   d 1 (.mv (t 29))])))))
  (.rg [d 10 (.mv (t 5)),
   d 11 (.bin .add (t 10) (n 1)),
   d 5 (.mv (t 11))]))))))
  (.seq (.rg [d 30 (.mv (t 1)),
   d 4 (.mv (t 30))])
  (.ret))),
  [.t 4]⟩
theorem k56 : compFn Try.prog [] [] Try.f56 = some c56 := by kernel_rfl

/-- spec.validZSet -/
def c127 : Cd := ⟨.seq (.rg [d 2 (.mv (.const (.bool false)))])
  (.seq (.seq (.rg [d 3 (.mv (n 0))])
  (.block 0 (.loop (.seq (.seq (.rg [d 4 (.mv (t 3)),
   d 5 (.mv (t 0)),
   d 6 (.len (t 5)),
   d 7 (.bin .lss (t 4) (t 6))])
  (.cond (t 7) (.skip) (.exit 0)))
  (.seq (.block 1 (.seq (.dr [5, 35] (ots [(0, d 10 (.mv (t 0))),
   (1, d 11 (.mv (t 3))),
   (2, d 12 (.ia (t 10) (t 11) 2)),
   (3, d 13 (.fa (t 12) 0)),
   (4, d 14 (.ld none (t 13))),
   (5, d 15 (.call 147 [t 14])),
   (6, d 16 (.un .not (t 15))),
   (7, d 17 (.mv (t 16))),
   (8, g (some 18) 17 false (.mv (t 0))),
   (9, g (some 19) 17 false (.mv (t 3))),
   (10, g (some 20) 17 false (.ia (t 18) (t 19) 2)),
   (11, g (some 21) 17 false (.fa (t 20) 0)),
   (12, g (some 22) 17 false (.ld none (t 21))),
   (13, g (some 23) 17 false (.len (t 22))),
   (14, g (some 24) 17 false (.mv (t 0))),
   (15, g (some 25) 17 false (.ia (t 24) (n 0) 2)),
   (16, g (some 26) 17 false (.fa (t 25) 0)),
   (17, g (some 27) 17 false (.ld none (t 26))),
   (18, g (some 28) 17 false (.len (t 27))),
   (19, g (some 29) 17 false (.bin .neq (t 23) (t 28))),
   (20, d 30 (.pick (t 17) (.const (.bool true)) (t 29))),
   (21, d 31 (.mv (t 30))),
   (22, g (some 32) 31 false (.mv (t 0))),
   (23, g (some 33) 31 false (.mv (t 3))),
   (24, g (some 34) 31 false (.ia (t 32) (t 33) 2)),
   (25, g (some 35) 31 false (.fa (t 34) 1)),
   (26, g (some 36) 31 false (.ld none (t 35))),
   (27, g (some 37) 31 false (.bin .eql (t 36) (n 0))),
   (28, d 38 (.pick (t 31) (.const (.bool true)) (t 37))),
   (29, d 39 (.mv (t 38))),
   (30, g (some 40) 39 false (.mv (t 0))),
   (31, g (some 41) 39 false (.mv (t 3))),
   (32, g (some 42) 39 false (.ia (t 40) (t 41) 2)),
   (33, g (some 43) 39 false (.fa (t 42) 1)),
   (34, g (some 44) 39 false (.ld none (t 43))),
   (35, g (some 45) 39 false (.call 148 [t 44, n (-1000000), n 1000000])),
   (36, g (some 46) 39 false (.un .not (t 45))),
   (37, d 47 (.pick (t 39) (.const (.bool true)) (t 46))),
   (38, d 48 (.mv (t 47))),
   (39, g (some 49) 48 false (.mv (t 3))),
   (40, g (some 50) 48 false (.bin .gtr (t 49) (n 0))),
   (41, g (some 51) 48 false (.mv (t 50))),
   (42, g (some 52) 51 true (.mv (t 0))),
   (43, g (some 53) 51 true (.mv (t 3))),
   (44, g (some 54) 51 true (.bin .sub (t 53) (n 1))),
   (45, g (some 55) 51 true (.ia (t 52) (t 54) 2)),
   (46, g (some 56) 51 true (.fa (t 55) 0)),
   (47, g (some 57) 51 true (.ld none (t 56))),
   (48, g (some 58) 51 true (.mv (t 0))),
   (49, g (some 59) 51 true (.mv (t 3))),
   (50, g (some 60) 51 true (.ia (t 58) (t 59) 2)),
   (51, g (some 61) 51 true (.fa (t 60) 0)),
   (52, g (some 62) 51 true (.ld none (t 61))),
   (53, g (some 63) 51 true (.call 187 [t 57, t 62])),
   (54, g (some 64) 51 true (.un .not (t 63))),
   (55, g (some 65) 48 false (.pick (t 51) (t 64) (.const (.bool false)))),
   (56, d 66 (.pick (t 48) (.const (.bool true)) (t 65)))] .fin))
  (.cond (t 66) (.seq (.rg [d 2 (.mv (.const (.bool false)))])
  (.ret)) (.skip))))
  (.rg [d 8 (.mv (t 3)),
   d 9 (.bin .add (t 8) (n 1)),
   d 3 (.mv (t 9))]))))))
  (.seq (.rg [d 67 (.mv (t 0)),
   d 68 (.len (t 67)),
   d 69 (.bin .leq (t 68) (n 400)),
   d 2 (.mv (t 69))])
  (.ret))),
  [.t 2]⟩
theorem k127 : compFn Try.prog [] [(4, [5, 35], its [0, 1, 2, 3, 4, 5, 6, 7, 8, 9, 10, 11, 12, 13, 14, 15, 16, 17, 18, 19, 20, 21, 22, 23, 24, 25, 26, 27, 28, 29, 30, 31, 32, 33, 34, 35, 36, 37, 38, 39, 40, 41, 42, 43, 44, 45, 46, 47, 48, 49, 50, 51, 52, 53, 54, 55, 56] .fin)] Try.f127 = some c127 := by kernel_rfl

/-- impl.ValidZSet -/
def c42 : Cd := ⟨.seq (.rg [d 2 (.mv (.const (.bool false)))])
  (.seq (.seq (.rg [d 5 (.mv (t 0)),
   d 6 (.len (t 5)),
   d 7 (.mv (n 0))])
  (.block 0 (.loop (.seq (.rg [d 8 (.bin .lss (t 7) (t 6))])
  (.seq (.cond (t 8) (.skip) (.exit 0))
  (.seq (.block 1 (.seq (.rg [d 9 (.mv (t 7)),
   d 10 (.ia (t 5) (t 7) 2),
   d 11 (.ld (some 2) (t 10)),
   d 4 (.al false 40 [.slice none 0 0, .int .i64 0]),
   d 3 (.mv (t 9)),
   x (.st 2 (t 4) (t 11))])
  (.seq (.dr [2] (ots [(0, d 12 (.fa (t 4) 0)),
   (1, d 13 (.ld none (t 12))),
   (2, d 14 (.call 120 [t 13])),
   (3, d 15 (.un .not (t 14))),
   (4, d 16 (.mv (t 15))),
   (5, g (some 17) 16 false (.fa (t 4) 0)),
   (6, g (some 18) 16 false (.ld none (t 17))),
   (7, g (some 19) 16 false (.len (t 18))),
   (8, g (some 20) 16 false (.mv (t 0))),
   (9, g (some 21) 16 false (.ia (t 20) (n 0) 2)),
   (10, g (some 22) 16 false (.fa (t 21) 0)),
   (11, g (some 23) 16 false (.ld none (t 22))),
   (12, g (some 24) 16 false (.len (t 23))),
   (13, g (some 25) 16 false (.bin .neq (t 19) (t 24))),
   (14, d 26 (.pick (t 16) (.const (.bool true)) (t 25))),
   (15, d 27 (.mv (t 26))),
   (16, g (some 28) 27 false (.fa (t 4) 1)),
   (17, g (some 29) 27 false (.ld none (t 28))),
   (18, g (some 30) 27 false (.bin .eql (t 29) (n 0))),
   (19, d 31 (.pick (t 27) (.const (.bool true)) (t 30))),
   (20, d 32 (.mv (t 31))),
   (21, g (some 33) 32 false (.fa (t 4) 1)),
   (22, g (some 34) 32 false (.ld none (t 33))),
   (23, g (some 35) 32 false (.bin .lss (t 34) (n (-1000000)))),
   (24, d 36 (.pick (t 32) (.const (.bool true)) (t 35))),
   (25, d 37 (.mv (t 36))),
   (26, g (some 38) 37 false (.fa (t 4) 1)),
   (27, g (some 39) 37 false (.ld none (t 38))),
   (28, g (some 40) 37 false (.bin .gtr (t 39) (n 1000000))),
   (29, d 41 (.pick (t 37) (.const (.bool true)) (t 40))),
   (30, d 42 (.mv (t 41))),
   (31, g (some 43) 42 false (.mv (t 3))),
   (32, g (some 44) 42 false (.bin .gtr (t 43) (n 0))),
   (33, g (some 45) 42 false (.mv (t 44))),
   (34, g (some 46) 45 true (.mv (t 0))),
   (35, g (some 47) 45 true (.mv (t 3))),
   (36, g (some 48) 45 true (.bin .sub (t 47) (n 1))),
   (37, g (some 49) 45 true (.ia (t 46) (t 48) 2)),
   (38, g (some 50) 45 true (.fa (t 49) 0)),
   (39, g (some 51) 45 true (.ld none (t 50))),
   (40, g (some 52) 45 true (.fa (t 4) 0)),
   (41, g (some 53) 45 true (.ld none (t 52))),
   (42, g (some 54) 45 true (.call 129 [t 51, t 53])),
   (43, g (some 55) 45 true (.un .not (t 54))),
   (44, g (some 56) 42 false (.pick (t 45) (t 55) (.const (.bool false)))),
   (45, d 57 (.pick (t 42) (.const (.bool true)) (t 56)))] .fin))
  (.cond (t 57) (.seq (.rg [d 2 (.mv (.const (.bool false)))])
  (.ret)) (.skip)))))
  (.rg [d 58 (.bin .add (t 7) (n 1)),
   d 7 (.mv (t 58))])))))))
  (.seq (.rg [d 59 (.mv (t 0)),
   d 60 (.len (t 59)),
   d 61 (.bin .leq (t 60) (n 400)),
   d 2 (.mv (t 61))])
  (.ret))),
  [.t 2]⟩
theorem k42 : compFn Try.prog [] [(4, [2], its [0, 1, 2, 3, 4, 5, 6, 7, 8, 9, 10, 11, 12, 13, 14, 15, 16, 17, 18, 19, 20, 21, 22, 23, 24, 25, 26, 27, 28, 29, 30, 31, 32, 33, 34, 35, 36, 37, 38, 39, 40, 41, 42, 43, 44, 45] .fin)] Try.f42 = some c42 := by kernel_rfl

/-- impl.TotalWeight -/
def c43 : Cd := ⟨.seq (.rg [d 2 (.mv (n 0))])
  (.seq (.seq (.rg [d 6 (.mv (t 0)),
   d 7 (.call 42 [t 6]),
   d 8 (.un .not (t 7))])
  (.cond (t 8) (.seq (.rg [d 2 (.mv (n 0))])
  (.ret)) (.skip)))
  (.seq (.rg [d 3 (.mv (n 0))])
  (.seq (.seq (.rg [d 9 (.mv (t 0)),
   d 10 (.len (t 9)),
   d 11 (.mv (n 0))])
  (.block 0 (.loop (.seq (.rg [d 12 (.bin .lss (t 11) (t 10))])
  (.seq (.cond (t 12) (.skip) (.exit 0))
  (.seq (.block 1 (.seq (.rg [d 13 (.ia (t 9) (t 11) 2),
   d 14 (.ld (some 2) (t 13)),
   d 5 (.al false 40 [.slice none 0 0, .int .i64 0]),
   x (.st 2 (t 5) (t 14))])
  (.rg [d 15 (.mv (t 3)),
   d 16 (.fa (t 5) 1),
   d 17 (.ld none (t 16)),
   d 18 (.bin .add (t 15) (t 17)),
   d 3 (.mv (t 18))])))
  (.rg [d 19 (.bin .add (t 11) (n 1)),
   d 11 (.mv (t 19))])))))))
  (.seq (.rg [d 20 (.mv (t 3)),
   d 2 (.mv (t 20))])
  (.ret))))),
  [.t 2]⟩
theorem k43 : compFn Try.prog [] [] Try.f43 = some c43 := by kernel_rfl

/-- impl.IsSet -/
def c48 : Cd := ⟨.seq (.rg [d 2 (.mv (.const (.bool false)))])
  (.seq (.seq (.rg [d 5 (.mv (t 0)),
   d 6 (.len (t 5)),
   d 7 (.mv (n 0))])
  (.block 0 (.loop (.seq (.rg [d 8 (.bin .lss (t 7) (t 6))])
  (.seq (.cond (t 8) (.skip) (.exit 0))
  (.seq (.block 1 (.seq (.rg [d 9 (.ia (t 5) (t 7) 2),
   d 10 (.ld (some 2) (t 9)),
   d 4 (.al false 40 [.slice none 0 0, .int .i64 0]),
   x (.st 2 (t 4) (t 10))])
  (.seq (.rg [d 11 (.fa (t 4) 1),
   d 12 (.ld none (t 11)),
   d 13 (.bin .neq (t 12) (n 1))])
  (.cond (t 13) (.seq (.rg [d 2 (.mv (.const (.bool false)))])
  (.ret)) (.skip)))))
  (.rg [d 14 (.bin .add (t 7) (n 1)),
   d 7 (.mv (t 14))])))))))
  (.seq (.rg [d 15 (.mv (t 0)),
   d 16 (.call 42 [t 15]),
   d 2 (.mv (t 16))])
  (.ret))),
  [.t 2]⟩
theorem k48 : compFn Try.prog [] [] Try.f48 = some c48 := by kernel_rfl

/-- impl.WeightOf -/
def c47 : Cd := ⟨.seq (.rg [d 4 (.mv (n 0))])
  (.seq (.seq (.rg [d 7 (.mv (t 0)),
   d 8 (.call 42 [t 7]),
   d 9 (.un .not (t 8))])
  (.cond (t 9) (.seq (.rg [d 4 (.mv (n 0))])
  (.ret)) (.skip)))
  (.seq (.seq (.rg [d 10 (.mv (t 0)),
   d 11 (.len (t 10)),
   d 12 (.mv (n 0))])
  (.block 0 (.loop (.seq (.rg [d 13 (.bin .lss (t 12) (t 11))])
  (.seq (.cond (t 13) (.skip) (.exit 0))
  (.seq (.block 1 (.seq (.rg [d 14 (.ia (t 10) (t 12) 2),
   d 15 (.ld (some 2) (t 14)),
   d 6 (.al false 40 [.slice none 0 0, .int .i64 0]),
   x (.st 2 (t 6) (t 15))])
  (.seq (.rg [d 16 (.fa (t 6) 0),
   d 17 (.ld none (t 16)),
   d 18 (.mv (t 1)),
   d 19 (.call 132 [t 17, t 18])])
  (.cond (t 19) (.seq (.rg [d 20 (.fa (t 6) 1),
   d 21 (.ld none (t 20)),
   d 4 (.mv (t 21))])
  (.ret)) (.skip)))))
  (.rg [d 22 (.bin .add (t 12) (n 1)),
   d 12 (.mv (t 22))])))))))
  (.seq (.rg [d 4 (.mv (n 0))])
  (.ret)))),
  [.t 4]⟩
theorem k47 : compFn Try.prog [] [] Try.f47 = some c47 := by kernel_rfl

/-- impl.widthOf -/
def c138 : Cd := ⟨.seq (.rg [d 2 (.mv (n 0))])
  (.seq (.seq (.rg [d 3 (.mv (t 0)),
   d 4 (.len (t 3)),
   d 5 (.bin .eql (t 4) (n 0))])
  (.cond (t 5) (.seq (.rg [d 2 (.mv (n 0))])
  (.ret)) (.skip)))
  (.seq (.rg [d 6 (.mv (t 0)),
   d 7 (.ia (t 6) (n 0) 2),
   d 8 (.fa (t 7) 0),
   d 9 (.ld none (t 8)),
   d 10 (.len (t 9)),
   d 2 (.mv (t 10))])
  (.ret))),
  [.t 2]⟩
theorem k138 : compFn Try.prog [] [] Try.f138 = some c138 := by kernel_rfl

/-- spec.widthOf -/
def c135 : Cd := ⟨.seq (.rg [d 2 (.mv (n 0))])
  (.seq (.rg [d 3 (.mv (t 0)),
   d 4 (.ia (t 3) (n 0) 2),
   d 5 (.fa (t 4) 0),
   d 6 (.ld none (t 5)),
   d 7 (.len (t 6)),
   d 2 (.mv (t 7))])
  (.ret)),
  [.t 2]⟩
theorem k135 : compFn Try.prog [] [] Try.f135 = some c135 := by kernel_rfl
end Go.Proofs.Ytkbgdjpdmhnniaa
