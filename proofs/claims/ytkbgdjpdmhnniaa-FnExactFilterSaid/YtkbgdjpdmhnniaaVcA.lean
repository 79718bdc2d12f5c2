/- The walker: short names for its forms. Own work. No condition. -/
import Derived.Test.YtkbgdjpdmhnniaaVcN
namespace Go.Vc
open Go
@[reducible] def t (k : Nat) : Operand := .tmp k
@[reducible] def n (k : Int) : Operand := .const (.int .i64 k)
@[reducible] def d (k : Nat) (i : I) : Nd := ⟨some k, none, i⟩
@[reducible] def x (i : I) : Nd := ⟨none, none, i⟩
@[reducible] def g (k : Option Nat) (s : Nat) (w : Bool) (i : I) : Nd := ⟨k, some (s, w), i⟩
def its : List Nat → It → It
  | [], r => r
  | i :: l, r => .op i (its l r)
def ots : List (Nat × Nd) → Ot → Ot
  | [], r => r
  | p :: l, r => .op p.1 p.2 (ots l r)
end Go.Vc
