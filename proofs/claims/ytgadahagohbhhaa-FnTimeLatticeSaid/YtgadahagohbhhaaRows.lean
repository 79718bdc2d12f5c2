/-
  No cell of these rows narrows 'for every input' (looked for: loops, veiled, ifaces, maps, wideKeys, modest, calm, conditions, laid).
  DERIVED. THE GIVEN ROWS OF THIS SEAT. 11 by the template 'for every input the law returns true; each argument reads behind the call as it read before'; 0 by the template 'total and deterministic' (their statements: YtgadahagohbhhaaTotals.lean).
  GIVEN WITH THE SEED: the statements are not yours to turn. If you find one false, say at which input.
  Laid BY PROGRAM, IN A SANDBOX (cutbox-rows.mjs): the forced cells as the released guide's own fill.sh prints them over the translation 6775a9507aef29a8… (all of the seat's roots in one cut). By AI agents, Wed Nov 11 2026. No macro, syntax, notation, axiom, sorry.
-/
import Derived.Test.YtgadahagohbhhaaChecked
import GoSem.Claim
import GoSem.ClaimJoined
import GoSem.ClaimMapViews
import Derived.JoinedTies
import Derived.KernelRfl
namespace Go.Proofs.Ytgadahagohbhhaa
/- THE CELL 'sum', in the pinned program and in every row, IS THE sha256 OF THE DUMP (.gsa) THAT YtgadahagohbhhaaProg.lean LOADS. Nothing in Lean hashes anything: it is a label: what it is worth is what the hold of that sum in a sandbox is worth. -/
noncomputable def Try.pinned : Pinned := { name := "ytgadahagohbhhaa", sum := "6775a9507aef29a849f12e2cd95bc57241f3237e5463f674e8933fa356a975ed", checked := Try.checked }
namespace Rows
def none {H : Type} : Left H := { results := [], args := [] }

/-- 'laws.FnExactConstants': WHATEVER THE INPUT: true; the input reads as it did. -/
def fnExactConstantsSpec : ChangeSpec := { name := "fnExactConstants", fn := fun _ => fun
  | [] => { results := [.lit (.bool true)], args := [] }
  | _ => none }
def fnExactConstantsRow : OpenClaim := { program := "ytgadahagohbhhaa", sum := "6775a9507aef29a849f12e2cd95bc57241f3237e5463f674e8933fa356a975ed", func := "loop.example/dataflow/laws.FnExactConstants", spec := "fnExactConstants", apart := false }
def FnExactConstantsSaid : Prop := fnExactConstantsRow.holds Try.pinned (OpenSpec.ofChange fnExactConstantsSpec)

/-- ITS FALSE NEIGHBOUR: 'it returns false'. Refute it at one input. -/
def fnExactConstantsWrong : ChangeSpec := { name := "fnExactConstants", fn := fun _ => fun
  | [] => { results := [.lit (.bool false)], args := [] }
  | _ => none }
def FnExactConstantsWrongFalsely : Prop := fnExactConstantsRow.holds Try.pinned (OpenSpec.ofChange fnExactConstantsWrong)

/-- 'laws.FnExactTimeBefore': WHATEVER THE INPUT: true; the input reads as it did. -/
def fnExactTimeBeforeSpec : ChangeSpec := { name := "fnExactTimeBefore", fn := fun _ => fun
  | [d1, d2] => { results := [.lit (.bool true)], args := [d1, d2] }
  | _ => none }
def fnExactTimeBeforeRow : OpenClaim := { program := "ytgadahagohbhhaa", sum := "6775a9507aef29a849f12e2cd95bc57241f3237e5463f674e8933fa356a975ed", func := "loop.example/dataflow/laws.FnExactTimeBefore", spec := "fnExactTimeBefore", apart := false }
def FnExactTimeBeforeSaid : Prop := fnExactTimeBeforeRow.holds Try.pinned (OpenSpec.ofChange fnExactTimeBeforeSpec)

/-- ITS FALSE NEIGHBOUR: 'it returns false'. Refute it at one input. -/
def fnExactTimeBeforeWrong : ChangeSpec := { name := "fnExactTimeBefore", fn := fun _ => fun
  | [d1, d2] => { results := [.lit (.bool false)], args := [d1, d2] }
  | _ => none }
def FnExactTimeBeforeWrongFalsely : Prop := fnExactTimeBeforeRow.holds Try.pinned (OpenSpec.ofChange fnExactTimeBeforeWrong)

/-- 'laws.FnExactTimeLessEqual': WHATEVER THE INPUT: true; the input reads as it did. -/
def fnExactTimeLessEqualSpec : ChangeSpec := { name := "fnExactTimeLessEqual", fn := fun _ => fun
  | [d1, d2] => { results := [.lit (.bool true)], args := [d1, d2] }
  | _ => none }
def fnExactTimeLessEqualRow : OpenClaim := { program := "ytgadahagohbhhaa", sum := "6775a9507aef29a849f12e2cd95bc57241f3237e5463f674e8933fa356a975ed", func := "loop.example/dataflow/laws.FnExactTimeLessEqual", spec := "fnExactTimeLessEqual", apart := false }
def FnExactTimeLessEqualSaid : Prop := fnExactTimeLessEqualRow.holds Try.pinned (OpenSpec.ofChange fnExactTimeLessEqualSpec)

/-- ITS FALSE NEIGHBOUR: 'it returns false'. Refute it at one input. -/
def fnExactTimeLessEqualWrong : ChangeSpec := { name := "fnExactTimeLessEqual", fn := fun _ => fun
  | [d1, d2] => { results := [.lit (.bool false)], args := [d1, d2] }
  | _ => none }
def FnExactTimeLessEqualWrongFalsely : Prop := fnExactTimeLessEqualRow.holds Try.pinned (OpenSpec.ofChange fnExactTimeLessEqualWrong)

/-- 'laws.FnExactValidTime': WHATEVER THE INPUT: true; the input reads as it did. -/
def fnExactValidTimeSpec : ChangeSpec := { name := "fnExactValidTime", fn := fun _ => fun
  | [d] => { results := [.lit (.bool true)], args := [d] }
  | _ => none }
def fnExactValidTimeRow : OpenClaim := { program := "ytgadahagohbhhaa", sum := "6775a9507aef29a849f12e2cd95bc57241f3237e5463f674e8933fa356a975ed", func := "loop.example/dataflow/laws.FnExactValidTime", spec := "fnExactValidTime", apart := false }
def FnExactValidTimeSaid : Prop := fnExactValidTimeRow.holds Try.pinned (OpenSpec.ofChange fnExactValidTimeSpec)

/-- ITS FALSE NEIGHBOUR: 'it returns false'. Refute it at one input. -/
def fnExactValidTimeWrong : ChangeSpec := { name := "fnExactValidTime", fn := fun _ => fun
  | [d] => { results := [.lit (.bool false)], args := [d] }
  | _ => none }
def FnExactValidTimeWrongFalsely : Prop := fnExactValidTimeRow.holds Try.pinned (OpenSpec.ofChange fnExactValidTimeWrong)

/-- 'laws.FnExactValidPredicate': WHATEVER THE INPUT: true; the input reads as it did. -/
def fnExactValidPredicateSpec : ChangeSpec := { name := "fnExactValidPredicate", fn := fun _ => fun
  | [d1, d2] => { results := [.lit (.bool true)], args := [d1, d2] }
  | _ => none }
def fnExactValidPredicateRow : OpenClaim := { program := "ytgadahagohbhhaa", sum := "6775a9507aef29a849f12e2cd95bc57241f3237e5463f674e8933fa356a975ed", func := "loop.example/dataflow/laws.FnExactValidPredicate", spec := "fnExactValidPredicate", apart := false }
def FnExactValidPredicateSaid : Prop := fnExactValidPredicateRow.holds Try.pinned (OpenSpec.ofChange fnExactValidPredicateSpec)

/-- ITS FALSE NEIGHBOUR: 'it returns false'. Refute it at one input. -/
def fnExactValidPredicateWrong : ChangeSpec := { name := "fnExactValidPredicate", fn := fun _ => fun
  | [d1, d2] => { results := [.lit (.bool false)], args := [d1, d2] }
  | _ => none }
def FnExactValidPredicateWrongFalsely : Prop := fnExactValidPredicateRow.holds Try.pinned (OpenSpec.ofChange fnExactValidPredicateWrong)

/-- 'laws.FnExactTimeJoin': WHATEVER THE INPUT: true; the input reads as it did. -/
def fnExactTimeJoinSpec : ChangeSpec := { name := "fnExactTimeJoin", fn := fun _ => fun
  | [d1, d2] => { results := [.lit (.bool true)], args := [d1, d2] }
  | _ => none }
def fnExactTimeJoinRow : OpenClaim := { program := "ytgadahagohbhhaa", sum := "6775a9507aef29a849f12e2cd95bc57241f3237e5463f674e8933fa356a975ed", func := "loop.example/dataflow/laws.FnExactTimeJoin", spec := "fnExactTimeJoin", apart := false }
def FnExactTimeJoinSaid : Prop := fnExactTimeJoinRow.holds Try.pinned (OpenSpec.ofChange fnExactTimeJoinSpec)

/-- ITS FALSE NEIGHBOUR: 'it returns false'. Refute it at one input. -/
def fnExactTimeJoinWrong : ChangeSpec := { name := "fnExactTimeJoin", fn := fun _ => fun
  | [d1, d2] => { results := [.lit (.bool false)], args := [d1, d2] }
  | _ => none }
def FnExactTimeJoinWrongFalsely : Prop := fnExactTimeJoinRow.holds Try.pinned (OpenSpec.ofChange fnExactTimeJoinWrong)

/-- 'laws.FnExactTimeMeet': WHATEVER THE INPUT: true; the input reads as it did. -/
def fnExactTimeMeetSpec : ChangeSpec := { name := "fnExactTimeMeet", fn := fun _ => fun
  | [d1, d2] => { results := [.lit (.bool true)], args := [d1, d2] }
  | _ => none }
def fnExactTimeMeetRow : OpenClaim := { program := "ytgadahagohbhhaa", sum := "6775a9507aef29a849f12e2cd95bc57241f3237e5463f674e8933fa356a975ed", func := "loop.example/dataflow/laws.FnExactTimeMeet", spec := "fnExactTimeMeet", apart := false }
def FnExactTimeMeetSaid : Prop := fnExactTimeMeetRow.holds Try.pinned (OpenSpec.ofChange fnExactTimeMeetSpec)

/-- ITS FALSE NEIGHBOUR: 'it returns false'. Refute it at one input. -/
def fnExactTimeMeetWrong : ChangeSpec := { name := "fnExactTimeMeet", fn := fun _ => fun
  | [d1, d2] => { results := [.lit (.bool false)], args := [d1, d2] }
  | _ => none }
def FnExactTimeMeetWrongFalsely : Prop := fnExactTimeMeetRow.holds Try.pinned (OpenSpec.ofChange fnExactTimeMeetWrong)

/-- 'laws.FnExactValidRow': WHATEVER THE INPUT: true; the input reads as it did. -/
def fnExactValidRowSpec : ChangeSpec := { name := "fnExactValidRow", fn := fun _ => fun
  | [d] => { results := [.lit (.bool true)], args := [d] }
  | _ => none }
def fnExactValidRowRow : OpenClaim := { program := "ytgadahagohbhhaa", sum := "6775a9507aef29a849f12e2cd95bc57241f3237e5463f674e8933fa356a975ed", func := "loop.example/dataflow/laws.FnExactValidRow", spec := "fnExactValidRow", apart := false }
def FnExactValidRowSaid : Prop := fnExactValidRowRow.holds Try.pinned (OpenSpec.ofChange fnExactValidRowSpec)

/-- ITS FALSE NEIGHBOUR: 'it returns false'. Refute it at one input. -/
def fnExactValidRowWrong : ChangeSpec := { name := "fnExactValidRow", fn := fun _ => fun
  | [d] => { results := [.lit (.bool false)], args := [d] }
  | _ => none }
def FnExactValidRowWrongFalsely : Prop := fnExactValidRowRow.holds Try.pinned (OpenSpec.ofChange fnExactValidRowWrong)

/-- 'laws.FnTimeOrder': WHATEVER THE INPUT: true; the input reads as it did. -/
def fnTimeOrderSpec : ChangeSpec := { name := "fnTimeOrder", fn := fun _ => fun
  | [d] => { results := [.lit (.bool true)], args := [d] }
  | _ => none }
def fnTimeOrderRow : OpenClaim := { program := "ytgadahagohbhhaa", sum := "6775a9507aef29a849f12e2cd95bc57241f3237e5463f674e8933fa356a975ed", func := "loop.example/dataflow/laws.FnTimeOrder", spec := "fnTimeOrder", apart := false }
def FnTimeOrderSaid : Prop := fnTimeOrderRow.holds Try.pinned (OpenSpec.ofChange fnTimeOrderSpec)

/-- ITS FALSE NEIGHBOUR: 'it returns false'. Refute it at one input. -/
def fnTimeOrderWrong : ChangeSpec := { name := "fnTimeOrder", fn := fun _ => fun
  | [d] => { results := [.lit (.bool false)], args := [d] }
  | _ => none }
def FnTimeOrderWrongFalsely : Prop := fnTimeOrderRow.holds Try.pinned (OpenSpec.ofChange fnTimeOrderWrong)

/-- 'laws.FnTimeLattice': WHATEVER THE INPUT: true; the input reads as it did. -/
def fnTimeLatticeSpec : ChangeSpec := { name := "fnTimeLattice", fn := fun _ => fun
  | [d1, d2] => { results := [.lit (.bool true)], args := [d1, d2] }
  | _ => none }
def fnTimeLatticeRow : OpenClaim := { program := "ytgadahagohbhhaa", sum := "6775a9507aef29a849f12e2cd95bc57241f3237e5463f674e8933fa356a975ed", func := "loop.example/dataflow/laws.FnTimeLattice", spec := "fnTimeLattice", apart := false }
def FnTimeLatticeSaid : Prop := fnTimeLatticeRow.holds Try.pinned (OpenSpec.ofChange fnTimeLatticeSpec)

/-- ITS FALSE NEIGHBOUR: 'it returns false'. Refute it at one input. -/
def fnTimeLatticeWrong : ChangeSpec := { name := "fnTimeLattice", fn := fun _ => fun
  | [d1, d2] => { results := [.lit (.bool false)], args := [d1, d2] }
  | _ => none }
def FnTimeLatticeWrongFalsely : Prop := fnTimeLatticeRow.holds Try.pinned (OpenSpec.ofChange fnTimeLatticeWrong)

/-- 'laws.FnExactRowLess': WHATEVER THE INPUT: true; the input reads as it did. -/
def fnExactRowLessSpec : ChangeSpec := { name := "fnExactRowLess", fn := fun _ => fun
  | [d1, d2] => { results := [.lit (.bool true)], args := [d1, d2] }
  | _ => none }
def fnExactRowLessRow : OpenClaim := { program := "ytgadahagohbhhaa", sum := "6775a9507aef29a849f12e2cd95bc57241f3237e5463f674e8933fa356a975ed", func := "loop.example/dataflow/laws.FnExactRowLess", spec := "fnExactRowLess", apart := false }
def FnExactRowLessSaid : Prop := fnExactRowLessRow.holds Try.pinned (OpenSpec.ofChange fnExactRowLessSpec)

/-- ITS FALSE NEIGHBOUR: 'it returns false'. Refute it at one input. -/
def fnExactRowLessWrong : ChangeSpec := { name := "fnExactRowLess", fn := fun _ => fun
  | [d1, d2] => { results := [.lit (.bool false)], args := [d1, d2] }
  | _ => none }
def FnExactRowLessWrongFalsely : Prop := fnExactRowLessRow.holds Try.pinned (OpenSpec.ofChange fnExactRowLessWrong)

/- THE SECOND FORM. 'bulk': how many values and letters a reading holds, each counted each time it is reached (what is shared counts as often as it is met; a slice's spare places count too). A statement '..UptoSaid' is the law's where the arguments, and the package variables that the reading takes, are together of bulk at most 1048576: NARROWER than '..Said'. Prove '..Said' where nothing that the law and all that it calls make is longer than what came in: it says more and counts as full. Else prove '..UptoSaid'. A law counts once. -/
mutual
def uptoBulk {H : Type} : DataW H → Nat
  | .lit (.string bytes) => bytes.length + 1
  | .lit _ => 1
  | .nil => 1
  | .ptr d => uptoBulk d + 1
  | .slice elems spare => uptoBulkAll elems + uptoBulkAll spare + 1
  | .agg parts => uptoBulkAll parts + 1
  | .iface _ d => uptoBulk d + 1
  | .map entries => uptoBulkEntries entries + 1
  | .held _ => 1
def uptoBulkAll {H : Type} : List (DataW H) → Nat
  | [] => 0
  | d :: r => uptoBulk d + uptoBulkAll r
def uptoBulkEntries {H : Type} : List (Lit × DataW H) → Nat
  | [] => 0
  | x :: r => uptoBulkEntry x + uptoBulkEntries r
def uptoBulkEntry {H : Type} : Lit × DataW H → Nat
  | (.string bytes, d) => bytes.length + uptoBulk d + 1
  | (_, d) => uptoBulk d + 1
 end
def uptoSmall : (H : Type) → List (DataW H) → Bool := fun _ ds => decide (uptoBulkAll ds ≤ 1048576)
def OpenSpec.upto (s : _root_.Go.ChangeSpec) : _root_.Go.OpenSpec := { _root_.Go.OpenSpec.ofChange s with cond := some uptoSmall }

/-- 'laws.FnExactConstants', WHERE WHAT IT READS IS OF BULK AT MOST 1048576: true; the input reads as it did. -/
def fnExactConstantsUptoRow : OpenClaim := { program := "ytgadahagohbhhaa", sum := "6775a9507aef29a849f12e2cd95bc57241f3237e5463f674e8933fa356a975ed", func := "loop.example/dataflow/laws.FnExactConstants", spec := "fnExactConstants", apart := false, narrowed := true }
def FnExactConstantsUptoSaid : Prop := fnExactConstantsUptoRow.holds Try.pinned (OpenSpec.upto fnExactConstantsSpec)

/-- 'laws.FnExactTimeBefore', WHERE WHAT IT READS IS OF BULK AT MOST 1048576: true; the input reads as it did. -/
def fnExactTimeBeforeUptoRow : OpenClaim := { program := "ytgadahagohbhhaa", sum := "6775a9507aef29a849f12e2cd95bc57241f3237e5463f674e8933fa356a975ed", func := "loop.example/dataflow/laws.FnExactTimeBefore", spec := "fnExactTimeBefore", apart := false, narrowed := true }
def FnExactTimeBeforeUptoSaid : Prop := fnExactTimeBeforeUptoRow.holds Try.pinned (OpenSpec.upto fnExactTimeBeforeSpec)

/-- 'laws.FnExactTimeLessEqual', WHERE WHAT IT READS IS OF BULK AT MOST 1048576: true; the input reads as it did. -/
def fnExactTimeLessEqualUptoRow : OpenClaim := { program := "ytgadahagohbhhaa", sum := "6775a9507aef29a849f12e2cd95bc57241f3237e5463f674e8933fa356a975ed", func := "loop.example/dataflow/laws.FnExactTimeLessEqual", spec := "fnExactTimeLessEqual", apart := false, narrowed := true }
def FnExactTimeLessEqualUptoSaid : Prop := fnExactTimeLessEqualUptoRow.holds Try.pinned (OpenSpec.upto fnExactTimeLessEqualSpec)

/-- 'laws.FnExactValidTime', WHERE WHAT IT READS IS OF BULK AT MOST 1048576: true; the input reads as it did. -/
def fnExactValidTimeUptoRow : OpenClaim := { program := "ytgadahagohbhhaa", sum := "6775a9507aef29a849f12e2cd95bc57241f3237e5463f674e8933fa356a975ed", func := "loop.example/dataflow/laws.FnExactValidTime", spec := "fnExactValidTime", apart := false, narrowed := true }
def FnExactValidTimeUptoSaid : Prop := fnExactValidTimeUptoRow.holds Try.pinned (OpenSpec.upto fnExactValidTimeSpec)

/-- 'laws.FnExactValidPredicate', WHERE WHAT IT READS IS OF BULK AT MOST 1048576: true; the input reads as it did. -/
def fnExactValidPredicateUptoRow : OpenClaim := { program := "ytgadahagohbhhaa", sum := "6775a9507aef29a849f12e2cd95bc57241f3237e5463f674e8933fa356a975ed", func := "loop.example/dataflow/laws.FnExactValidPredicate", spec := "fnExactValidPredicate", apart := false, narrowed := true }
def FnExactValidPredicateUptoSaid : Prop := fnExactValidPredicateUptoRow.holds Try.pinned (OpenSpec.upto fnExactValidPredicateSpec)

/-- 'laws.FnExactTimeJoin', WHERE WHAT IT READS IS OF BULK AT MOST 1048576: true; the input reads as it did. -/
def fnExactTimeJoinUptoRow : OpenClaim := { program := "ytgadahagohbhhaa", sum := "6775a9507aef29a849f12e2cd95bc57241f3237e5463f674e8933fa356a975ed", func := "loop.example/dataflow/laws.FnExactTimeJoin", spec := "fnExactTimeJoin", apart := false, narrowed := true }
def FnExactTimeJoinUptoSaid : Prop := fnExactTimeJoinUptoRow.holds Try.pinned (OpenSpec.upto fnExactTimeJoinSpec)

/-- 'laws.FnExactTimeMeet', WHERE WHAT IT READS IS OF BULK AT MOST 1048576: true; the input reads as it did. -/
def fnExactTimeMeetUptoRow : OpenClaim := { program := "ytgadahagohbhhaa", sum := "6775a9507aef29a849f12e2cd95bc57241f3237e5463f674e8933fa356a975ed", func := "loop.example/dataflow/laws.FnExactTimeMeet", spec := "fnExactTimeMeet", apart := false, narrowed := true }
def FnExactTimeMeetUptoSaid : Prop := fnExactTimeMeetUptoRow.holds Try.pinned (OpenSpec.upto fnExactTimeMeetSpec)

/-- 'laws.FnExactValidRow', WHERE WHAT IT READS IS OF BULK AT MOST 1048576: true; the input reads as it did. -/
def fnExactValidRowUptoRow : OpenClaim := { program := "ytgadahagohbhhaa", sum := "6775a9507aef29a849f12e2cd95bc57241f3237e5463f674e8933fa356a975ed", func := "loop.example/dataflow/laws.FnExactValidRow", spec := "fnExactValidRow", apart := false, narrowed := true }
def FnExactValidRowUptoSaid : Prop := fnExactValidRowUptoRow.holds Try.pinned (OpenSpec.upto fnExactValidRowSpec)

/-- 'laws.FnTimeOrder', WHERE WHAT IT READS IS OF BULK AT MOST 1048576: true; the input reads as it did. -/
def fnTimeOrderUptoRow : OpenClaim := { program := "ytgadahagohbhhaa", sum := "6775a9507aef29a849f12e2cd95bc57241f3237e5463f674e8933fa356a975ed", func := "loop.example/dataflow/laws.FnTimeOrder", spec := "fnTimeOrder", apart := false, narrowed := true }
def FnTimeOrderUptoSaid : Prop := fnTimeOrderUptoRow.holds Try.pinned (OpenSpec.upto fnTimeOrderSpec)

/-- 'laws.FnTimeLattice', WHERE WHAT IT READS IS OF BULK AT MOST 1048576: true; the input reads as it did. -/
def fnTimeLatticeUptoRow : OpenClaim := { program := "ytgadahagohbhhaa", sum := "6775a9507aef29a849f12e2cd95bc57241f3237e5463f674e8933fa356a975ed", func := "loop.example/dataflow/laws.FnTimeLattice", spec := "fnTimeLattice", apart := false, narrowed := true }
def FnTimeLatticeUptoSaid : Prop := fnTimeLatticeUptoRow.holds Try.pinned (OpenSpec.upto fnTimeLatticeSpec)

/-- 'laws.FnExactRowLess', WHERE WHAT IT READS IS OF BULK AT MOST 1048576: true; the input reads as it did. -/
def fnExactRowLessUptoRow : OpenClaim := { program := "ytgadahagohbhhaa", sum := "6775a9507aef29a849f12e2cd95bc57241f3237e5463f674e8933fa356a975ed", func := "loop.example/dataflow/laws.FnExactRowLess", spec := "fnExactRowLess", apart := false, narrowed := true }
def FnExactRowLessUptoSaid : Prop := fnExactRowLessUptoRow.holds Try.pinned (OpenSpec.upto fnExactRowLessSpec)

end Rows
end Go.Proofs.Ytgadahagohbhhaa
