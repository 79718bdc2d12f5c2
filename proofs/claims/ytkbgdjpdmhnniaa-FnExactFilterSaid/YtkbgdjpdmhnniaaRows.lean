/-
  No cell of these rows narrows 'for every input' (looked for: loops, veiled, ifaces, maps, wideKeys, modest, calm, conditions, laid).
  DERIVED. THE GIVEN ROWS OF THIS SEAT. 30 by the template 'for every input the law returns true; each argument reads behind the call as it read before'; 0 by the template 'total and deterministic' (their statements: YtkbgdjpdmhnniaaTotals.lean).
  GIVEN WITH THE SEED: the statements are not yours to turn. If you find one false, say at which input.
  Laid BY PROGRAM, IN A SANDBOX (cutbox-rows.mjs): the forced cells as the released guide's own fill.sh prints them over the translation 7880f0489e547bef… (all of the seat's roots in one cut). By AI agents, Wed Nov 11 2026. No macro, syntax, notation, axiom, sorry.
-/
import Derived.Test.YtkbgdjpdmhnniaaChecked
import GoSem.Claim
import GoSem.ClaimJoined
import GoSem.ClaimMapViews
import Derived.JoinedTies
import Derived.KernelRfl
namespace Go.Proofs.Ytkbgdjpdmhnniaa
/- THE CELL 'sum', in the pinned program and in every row, IS THE sha256 OF THE DUMP (.gsa) THAT YtkbgdjpdmhnniaaProg.lean LOADS. Nothing in Lean hashes anything: it is a label: what it is worth is what the hold of that sum in a sandbox is worth. -/
noncomputable def Try.pinned : Pinned := { name := "ytkbgdjpdmhnniaa", sum := "7880f0489e547bef7c412c534f0ae8b0adb58f3a78f4d5e30c4ccc260aca2745", checked := Try.checked }
namespace Rows
def none {H : Type} : Left H := { results := [], args := [] }

/-- 'laws.FnExactValidTrace': WHATEVER THE INPUT: true; the input reads as it did. -/
def fnExactValidTraceSpec : ChangeSpec := { name := "fnExactValidTrace", fn := fun _ => fun
  | [d] => { results := [.lit (.bool true)], args := [d] }
  | _ => none }
def fnExactValidTraceRow : OpenClaim := { program := "ytkbgdjpdmhnniaa", sum := "7880f0489e547bef7c412c534f0ae8b0adb58f3a78f4d5e30c4ccc260aca2745", func := "loop.example/dataflow/laws.FnExactValidTrace", spec := "fnExactValidTrace", apart := false }
def FnExactValidTraceSaid : Prop := fnExactValidTraceRow.holds Try.pinned (OpenSpec.ofChange fnExactValidTraceSpec)

/-- ITS FALSE NEIGHBOUR: 'it returns false'. Refute it at one input. -/
def fnExactValidTraceWrong : ChangeSpec := { name := "fnExactValidTrace", fn := fun _ => fun
  | [d] => { results := [.lit (.bool false)], args := [d] }
  | _ => none }
def FnExactValidTraceWrongFalsely : Prop := fnExactValidTraceRow.holds Try.pinned (OpenSpec.ofChange fnExactValidTraceWrong)

/-- 'laws.FnNegate': WHATEVER THE INPUT: true; the input reads as it did. -/
def fnNegateSpec : ChangeSpec := { name := "fnNegate", fn := fun _ => fun
  | [d] => { results := [.lit (.bool true)], args := [d] }
  | _ => none }
def fnNegateRow : OpenClaim := { program := "ytkbgdjpdmhnniaa", sum := "7880f0489e547bef7c412c534f0ae8b0adb58f3a78f4d5e30c4ccc260aca2745", func := "loop.example/dataflow/laws.FnNegate", spec := "fnNegate", apart := false }
def FnNegateSaid : Prop := fnNegateRow.holds Try.pinned (OpenSpec.ofChange fnNegateSpec)

/-- ITS FALSE NEIGHBOUR: 'it returns false'. Refute it at one input. -/
def fnNegateWrong : ChangeSpec := { name := "fnNegate", fn := fun _ => fun
  | [d] => { results := [.lit (.bool false)], args := [d] }
  | _ => none }
def FnNegateWrongFalsely : Prop := fnNegateRow.holds Try.pinned (OpenSpec.ofChange fnNegateWrong)

/-- 'laws.FnDistinct': WHATEVER THE INPUT: true; the input reads as it did. -/
def fnDistinctSpec : ChangeSpec := { name := "fnDistinct", fn := fun _ => fun
  | [d] => { results := [.lit (.bool true)], args := [d] }
  | _ => none }
def fnDistinctRow : OpenClaim := { program := "ytkbgdjpdmhnniaa", sum := "7880f0489e547bef7c412c534f0ae8b0adb58f3a78f4d5e30c4ccc260aca2745", func := "loop.example/dataflow/laws.FnDistinct", spec := "fnDistinct", apart := false }
def FnDistinctSaid : Prop := fnDistinctRow.holds Try.pinned (OpenSpec.ofChange fnDistinctSpec)

/-- ITS FALSE NEIGHBOUR: 'it returns false'. Refute it at one input. -/
def fnDistinctWrong : ChangeSpec := { name := "fnDistinct", fn := fun _ => fun
  | [d] => { results := [.lit (.bool false)], args := [d] }
  | _ => none }
def FnDistinctWrongFalsely : Prop := fnDistinctRow.holds Try.pinned (OpenSpec.ofChange fnDistinctWrong)

/-- 'laws.FnExactFilter': WHATEVER THE INPUT: true; the input reads as it did. -/
def fnExactFilterSpec : ChangeSpec := { name := "fnExactFilter", fn := fun _ => fun
  | [d1, d2] => { results := [.lit (.bool true)], args := [d1, d2] }
  | _ => none }
def fnExactFilterRow : OpenClaim := { program := "ytkbgdjpdmhnniaa", sum := "7880f0489e547bef7c412c534f0ae8b0adb58f3a78f4d5e30c4ccc260aca2745", func := "loop.example/dataflow/laws.FnExactFilter", spec := "fnExactFilter", unfollowed := true, recurses := true, apart := false }
def FnExactFilterSaid : Prop := fnExactFilterRow.holds Try.pinned (OpenSpec.ofChange fnExactFilterSpec)

/-- ITS FALSE NEIGHBOUR: 'it returns false'. Refute it at one input. -/
def fnExactFilterWrong : ChangeSpec := { name := "fnExactFilter", fn := fun _ => fun
  | [d1, d2] => { results := [.lit (.bool false)], args := [d1, d2] }
  | _ => none }
def FnExactFilterWrongFalsely : Prop := fnExactFilterRow.holds Try.pinned (OpenSpec.ofChange fnExactFilterWrong)

/-- 'laws.FnNormalize': WHATEVER THE INPUT: true; the input reads as it did. -/
def fnNormalizeSpec : ChangeSpec := { name := "fnNormalize", fn := fun _ => fun
  | [d] => { results := [.lit (.bool true)], args := [d] }
  | _ => none }
def fnNormalizeRow : OpenClaim := { program := "ytkbgdjpdmhnniaa", sum := "7880f0489e547bef7c412c534f0ae8b0adb58f3a78f4d5e30c4ccc260aca2745", func := "loop.example/dataflow/laws.FnNormalize", spec := "fnNormalize", unfollowed := true, recurses := true, apart := false }
def FnNormalizeSaid : Prop := fnNormalizeRow.holds Try.pinned (OpenSpec.ofChange fnNormalizeSpec)

/-- ITS FALSE NEIGHBOUR: 'it returns false'. Refute it at one input. -/
def fnNormalizeWrong : ChangeSpec := { name := "fnNormalize", fn := fun _ => fun
  | [d] => { results := [.lit (.bool false)], args := [d] }
  | _ => none }
def FnNormalizeWrongFalsely : Prop := fnNormalizeRow.holds Try.pinned (OpenSpec.ofChange fnNormalizeWrong)

/-- 'laws.FnNormalizeOrder': WHATEVER THE INPUT: true; the input reads as it did. -/
def fnNormalizeOrderSpec : ChangeSpec := { name := "fnNormalizeOrder", fn := fun _ => fun
  | [d] => { results := [.lit (.bool true)], args := [d] }
  | _ => none }
def fnNormalizeOrderRow : OpenClaim := { program := "ytkbgdjpdmhnniaa", sum := "7880f0489e547bef7c412c534f0ae8b0adb58f3a78f4d5e30c4ccc260aca2745", func := "loop.example/dataflow/laws.FnNormalizeOrder", spec := "fnNormalizeOrder", unfollowed := true, recurses := true, apart := false }
def FnNormalizeOrderSaid : Prop := fnNormalizeOrderRow.holds Try.pinned (OpenSpec.ofChange fnNormalizeOrderSpec)

/-- ITS FALSE NEIGHBOUR: 'it returns false'. Refute it at one input. -/
def fnNormalizeOrderWrong : ChangeSpec := { name := "fnNormalizeOrder", fn := fun _ => fun
  | [d] => { results := [.lit (.bool false)], args := [d] }
  | _ => none }
def FnNormalizeOrderWrongFalsely : Prop := fnNormalizeOrderRow.holds Try.pinned (OpenSpec.ofChange fnNormalizeOrderWrong)

/-- 'laws.FnConsolidate': WHATEVER THE INPUT: true; the input reads as it did. -/
def fnConsolidateSpec : ChangeSpec := { name := "fnConsolidate", fn := fun _ => fun
  | [d] => { results := [.lit (.bool true)], args := [d] }
  | _ => none }
def fnConsolidateRow : OpenClaim := { program := "ytkbgdjpdmhnniaa", sum := "7880f0489e547bef7c412c534f0ae8b0adb58f3a78f4d5e30c4ccc260aca2745", func := "loop.example/dataflow/laws.FnConsolidate", spec := "fnConsolidate", unfollowed := true, recurses := true, apart := false }
def FnConsolidateSaid : Prop := fnConsolidateRow.holds Try.pinned (OpenSpec.ofChange fnConsolidateSpec)

/-- ITS FALSE NEIGHBOUR: 'it returns false'. Refute it at one input. -/
def fnConsolidateWrong : ChangeSpec := { name := "fnConsolidate", fn := fun _ => fun
  | [d] => { results := [.lit (.bool false)], args := [d] }
  | _ => none }
def FnConsolidateWrongFalsely : Prop := fnConsolidateRow.holds Try.pinned (OpenSpec.ofChange fnConsolidateWrong)

/-- 'laws.FnExactNormalize': WHATEVER THE INPUT: true; the input reads as it did. -/
def fnExactNormalizeSpec : ChangeSpec := { name := "fnExactNormalize", fn := fun _ => fun
  | [d] => { results := [.lit (.bool true)], args := [d] }
  | _ => none }
def fnExactNormalizeRow : OpenClaim := { program := "ytkbgdjpdmhnniaa", sum := "7880f0489e547bef7c412c534f0ae8b0adb58f3a78f4d5e30c4ccc260aca2745", func := "loop.example/dataflow/laws.FnExactNormalize", spec := "fnExactNormalize", unfollowed := true, recurses := true, apart := false }
def FnExactNormalizeSaid : Prop := fnExactNormalizeRow.holds Try.pinned (OpenSpec.ofChange fnExactNormalizeSpec)

/-- ITS FALSE NEIGHBOUR: 'it returns false'. Refute it at one input. -/
def fnExactNormalizeWrong : ChangeSpec := { name := "fnExactNormalize", fn := fun _ => fun
  | [d] => { results := [.lit (.bool false)], args := [d] }
  | _ => none }
def FnExactNormalizeWrongFalsely : Prop := fnExactNormalizeRow.holds Try.pinned (OpenSpec.ofChange fnExactNormalizeWrong)

/-- 'laws.FnFilter': WHATEVER THE INPUT: true; the input reads as it did. -/
def fnFilterSpec : ChangeSpec := { name := "fnFilter", fn := fun _ => fun
  | [d] => { results := [.lit (.bool true)], args := [d] }
  | _ => none }
def fnFilterRow : OpenClaim := { program := "ytkbgdjpdmhnniaa", sum := "7880f0489e547bef7c412c534f0ae8b0adb58f3a78f4d5e30c4ccc260aca2745", func := "loop.example/dataflow/laws.FnFilter", spec := "fnFilter", unfollowed := true, recurses := true, apart := false }
def FnFilterSaid : Prop := fnFilterRow.holds Try.pinned (OpenSpec.ofChange fnFilterSpec)

/-- ITS FALSE NEIGHBOUR: 'it returns false'. Refute it at one input. -/
def fnFilterWrong : ChangeSpec := { name := "fnFilter", fn := fun _ => fun
  | [d] => { results := [.lit (.bool false)], args := [d] }
  | _ => none }
def FnFilterWrongFalsely : Prop := fnFilterRow.holds Try.pinned (OpenSpec.ofChange fnFilterWrong)

/-- 'laws.FnExactMinimalTimes': WHATEVER THE INPUT: true; the input reads as it did. -/
def fnExactMinimalTimesSpec : ChangeSpec := { name := "fnExactMinimalTimes", fn := fun _ => fun
  | [d] => { results := [.lit (.bool true)], args := [d] }
  | _ => none }
def fnExactMinimalTimesRow : OpenClaim := { program := "ytkbgdjpdmhnniaa", sum := "7880f0489e547bef7c412c534f0ae8b0adb58f3a78f4d5e30c4ccc260aca2745", func := "loop.example/dataflow/laws.FnExactMinimalTimes", spec := "fnExactMinimalTimes", unfollowed := true, recurses := true, apart := false }
def FnExactMinimalTimesSaid : Prop := fnExactMinimalTimesRow.holds Try.pinned (OpenSpec.ofChange fnExactMinimalTimesSpec)

/-- ITS FALSE NEIGHBOUR: 'it returns false'. Refute it at one input. -/
def fnExactMinimalTimesWrong : ChangeSpec := { name := "fnExactMinimalTimes", fn := fun _ => fun
  | [d] => { results := [.lit (.bool false)], args := [d] }
  | _ => none }
def FnExactMinimalTimesWrongFalsely : Prop := fnExactMinimalTimesRow.holds Try.pinned (OpenSpec.ofChange fnExactMinimalTimesWrong)

/-- 'laws.FnExactMapColumns': WHATEVER THE INPUT: true; the input reads as it did. -/
def fnExactMapColumnsSpec : ChangeSpec := { name := "fnExactMapColumns", fn := fun _ => fun
  | [d1, d2] => { results := [.lit (.bool true)], args := [d1, d2] }
  | _ => none }
def fnExactMapColumnsRow : OpenClaim := { program := "ytkbgdjpdmhnniaa", sum := "7880f0489e547bef7c412c534f0ae8b0adb58f3a78f4d5e30c4ccc260aca2745", func := "loop.example/dataflow/laws.FnExactMapColumns", spec := "fnExactMapColumns", unfollowed := true, recurses := true, apart := false }
def FnExactMapColumnsSaid : Prop := fnExactMapColumnsRow.holds Try.pinned (OpenSpec.ofChange fnExactMapColumnsSpec)

/-- ITS FALSE NEIGHBOUR: 'it returns false'. Refute it at one input. -/
def fnExactMapColumnsWrong : ChangeSpec := { name := "fnExactMapColumns", fn := fun _ => fun
  | [d1, d2] => { results := [.lit (.bool false)], args := [d1, d2] }
  | _ => none }
def FnExactMapColumnsWrongFalsely : Prop := fnExactMapColumnsRow.holds Try.pinned (OpenSpec.ofChange fnExactMapColumnsWrong)

/-- 'laws.FnExactConsolidate': WHATEVER THE INPUT: true; the input reads as it did. -/
def fnExactConsolidateSpec : ChangeSpec := { name := "fnExactConsolidate", fn := fun _ => fun
  | [d] => { results := [.lit (.bool true)], args := [d] }
  | _ => none }
def fnExactConsolidateRow : OpenClaim := { program := "ytkbgdjpdmhnniaa", sum := "7880f0489e547bef7c412c534f0ae8b0adb58f3a78f4d5e30c4ccc260aca2745", func := "loop.example/dataflow/laws.FnExactConsolidate", spec := "fnExactConsolidate", unfollowed := true, recurses := true, apart := false }
def FnExactConsolidateSaid : Prop := fnExactConsolidateRow.holds Try.pinned (OpenSpec.ofChange fnExactConsolidateSpec)

/-- ITS FALSE NEIGHBOUR: 'it returns false'. Refute it at one input. -/
def fnExactConsolidateWrong : ChangeSpec := { name := "fnExactConsolidate", fn := fun _ => fun
  | [d] => { results := [.lit (.bool false)], args := [d] }
  | _ => none }
def FnExactConsolidateWrongFalsely : Prop := fnExactConsolidateRow.holds Try.pinned (OpenSpec.ofChange fnExactConsolidateWrong)

/-- 'laws.FnFilterLinear': WHATEVER THE INPUT: true; the input reads as it did. -/
def fnFilterLinearSpec : ChangeSpec := { name := "fnFilterLinear", fn := fun _ => fun
  | [d1, d2] => { results := [.lit (.bool true)], args := [d1, d2] }
  | _ => none }
def fnFilterLinearRow : OpenClaim := { program := "ytkbgdjpdmhnniaa", sum := "7880f0489e547bef7c412c534f0ae8b0adb58f3a78f4d5e30c4ccc260aca2745", func := "loop.example/dataflow/laws.FnFilterLinear", spec := "fnFilterLinear", unfollowed := true, recurses := true, apart := false }
def FnFilterLinearSaid : Prop := fnFilterLinearRow.holds Try.pinned (OpenSpec.ofChange fnFilterLinearSpec)

/-- ITS FALSE NEIGHBOUR: 'it returns false'. Refute it at one input. -/
def fnFilterLinearWrong : ChangeSpec := { name := "fnFilterLinear", fn := fun _ => fun
  | [d1, d2] => { results := [.lit (.bool false)], args := [d1, d2] }
  | _ => none }
def FnFilterLinearWrongFalsely : Prop := fnFilterLinearRow.holds Try.pinned (OpenSpec.ofChange fnFilterLinearWrong)

/-- 'laws.FnExactFrontierMeet': WHATEVER THE INPUT: true; the input reads as it did. -/
def fnExactFrontierMeetSpec : ChangeSpec := { name := "fnExactFrontierMeet", fn := fun _ => fun
  | [d1, d2] => { results := [.lit (.bool true)], args := [d1, d2] }
  | _ => none }
def fnExactFrontierMeetRow : OpenClaim := { program := "ytkbgdjpdmhnniaa", sum := "7880f0489e547bef7c412c534f0ae8b0adb58f3a78f4d5e30c4ccc260aca2745", func := "loop.example/dataflow/laws.FnExactFrontierMeet", spec := "fnExactFrontierMeet", unfollowed := true, recurses := true, apart := false }
def FnExactFrontierMeetSaid : Prop := fnExactFrontierMeetRow.holds Try.pinned (OpenSpec.ofChange fnExactFrontierMeetSpec)

/-- ITS FALSE NEIGHBOUR: 'it returns false'. Refute it at one input. -/
def fnExactFrontierMeetWrong : ChangeSpec := { name := "fnExactFrontierMeet", fn := fun _ => fun
  | [d1, d2] => { results := [.lit (.bool false)], args := [d1, d2] }
  | _ => none }
def FnExactFrontierMeetWrongFalsely : Prop := fnExactFrontierMeetRow.holds Try.pinned (OpenSpec.ofChange fnExactFrontierMeetWrong)

/-- 'laws.FnExactFilterTrace': WHATEVER THE INPUT: true; the input reads as it did. -/
def fnExactFilterTraceSpec : ChangeSpec := { name := "fnExactFilterTrace", fn := fun _ => fun
  | [d1, d2] => { results := [.lit (.bool true)], args := [d1, d2] }
  | _ => none }
def fnExactFilterTraceRow : OpenClaim := { program := "ytkbgdjpdmhnniaa", sum := "7880f0489e547bef7c412c534f0ae8b0adb58f3a78f4d5e30c4ccc260aca2745", func := "loop.example/dataflow/laws.FnExactFilterTrace", spec := "fnExactFilterTrace", unfollowed := true, recurses := true, apart := false }
def FnExactFilterTraceSaid : Prop := fnExactFilterTraceRow.holds Try.pinned (OpenSpec.ofChange fnExactFilterTraceSpec)

/-- ITS FALSE NEIGHBOUR: 'it returns false'. Refute it at one input. -/
def fnExactFilterTraceWrong : ChangeSpec := { name := "fnExactFilterTrace", fn := fun _ => fun
  | [d1, d2] => { results := [.lit (.bool false)], args := [d1, d2] }
  | _ => none }
def FnExactFilterTraceWrongFalsely : Prop := fnExactFilterTraceRow.holds Try.pinned (OpenSpec.ofChange fnExactFilterTraceWrong)

/-- 'laws.FnMapColumns': WHATEVER THE INPUT: true; the input reads as it did. -/
def fnMapColumnsSpec : ChangeSpec := { name := "fnMapColumns", fn := fun _ => fun
  | [d] => { results := [.lit (.bool true)], args := [d] }
  | _ => none }
def fnMapColumnsRow : OpenClaim := { program := "ytkbgdjpdmhnniaa", sum := "7880f0489e547bef7c412c534f0ae8b0adb58f3a78f4d5e30c4ccc260aca2745", func := "loop.example/dataflow/laws.FnMapColumns", spec := "fnMapColumns", unfollowed := true, recurses := true, apart := false }
def FnMapColumnsSaid : Prop := fnMapColumnsRow.holds Try.pinned (OpenSpec.ofChange fnMapColumnsSpec)

/-- ITS FALSE NEIGHBOUR: 'it returns false'. Refute it at one input. -/
def fnMapColumnsWrong : ChangeSpec := { name := "fnMapColumns", fn := fun _ => fun
  | [d] => { results := [.lit (.bool false)], args := [d] }
  | _ => none }
def FnMapColumnsWrongFalsely : Prop := fnMapColumnsRow.holds Try.pinned (OpenSpec.ofChange fnMapColumnsWrong)

/-- 'laws.FnMapLinear': WHATEVER THE INPUT: true; the input reads as it did. -/
def fnMapLinearSpec : ChangeSpec := { name := "fnMapLinear", fn := fun _ => fun
  | [d1, d2] => { results := [.lit (.bool true)], args := [d1, d2] }
  | _ => none }
def fnMapLinearRow : OpenClaim := { program := "ytkbgdjpdmhnniaa", sum := "7880f0489e547bef7c412c534f0ae8b0adb58f3a78f4d5e30c4ccc260aca2745", func := "loop.example/dataflow/laws.FnMapLinear", spec := "fnMapLinear", unfollowed := true, recurses := true, apart := false }
def FnMapLinearSaid : Prop := fnMapLinearRow.holds Try.pinned (OpenSpec.ofChange fnMapLinearSpec)

/-- ITS FALSE NEIGHBOUR: 'it returns false'. Refute it at one input. -/
def fnMapLinearWrong : ChangeSpec := { name := "fnMapLinear", fn := fun _ => fun
  | [d1, d2] => { results := [.lit (.bool false)], args := [d1, d2] }
  | _ => none }
def FnMapLinearWrongFalsely : Prop := fnMapLinearRow.holds Try.pinned (OpenSpec.ofChange fnMapLinearWrong)

/-- 'laws.FnMinimalTimes': WHATEVER THE INPUT: true; the input reads as it did. -/
def fnMinimalTimesSpec : ChangeSpec := { name := "fnMinimalTimes", fn := fun _ => fun
  | [d1, d2] => { results := [.lit (.bool true)], args := [d1, d2] }
  | _ => none }
def fnMinimalTimesRow : OpenClaim := { program := "ytkbgdjpdmhnniaa", sum := "7880f0489e547bef7c412c534f0ae8b0adb58f3a78f4d5e30c4ccc260aca2745", func := "loop.example/dataflow/laws.FnMinimalTimes", spec := "fnMinimalTimes", unfollowed := true, recurses := true, apart := false }
def FnMinimalTimesSaid : Prop := fnMinimalTimesRow.holds Try.pinned (OpenSpec.ofChange fnMinimalTimesSpec)

/-- ITS FALSE NEIGHBOUR: 'it returns false'. Refute it at one input. -/
def fnMinimalTimesWrong : ChangeSpec := { name := "fnMinimalTimes", fn := fun _ => fun
  | [d1, d2] => { results := [.lit (.bool false)], args := [d1, d2] }
  | _ => none }
def FnMinimalTimesWrongFalsely : Prop := fnMinimalTimesRow.holds Try.pinned (OpenSpec.ofChange fnMinimalTimesWrong)

/-- 'laws.FnExactFrontierJoin': WHATEVER THE INPUT: true; the input reads as it did. -/
def fnExactFrontierJoinSpec : ChangeSpec := { name := "fnExactFrontierJoin", fn := fun _ => fun
  | [d1, d2] => { results := [.lit (.bool true)], args := [d1, d2] }
  | _ => none }
def fnExactFrontierJoinRow : OpenClaim := { program := "ytkbgdjpdmhnniaa", sum := "7880f0489e547bef7c412c534f0ae8b0adb58f3a78f4d5e30c4ccc260aca2745", func := "loop.example/dataflow/laws.FnExactFrontierJoin", spec := "fnExactFrontierJoin", unfollowed := true, recurses := true, apart := false }
def FnExactFrontierJoinSaid : Prop := fnExactFrontierJoinRow.holds Try.pinned (OpenSpec.ofChange fnExactFrontierJoinSpec)

/-- ITS FALSE NEIGHBOUR: 'it returns false'. Refute it at one input. -/
def fnExactFrontierJoinWrong : ChangeSpec := { name := "fnExactFrontierJoin", fn := fun _ => fun
  | [d1, d2] => { results := [.lit (.bool false)], args := [d1, d2] }
  | _ => none }
def FnExactFrontierJoinWrongFalsely : Prop := fnExactFrontierJoinRow.holds Try.pinned (OpenSpec.ofChange fnExactFrontierJoinWrong)

/-- 'laws.FnExactMapTrace': WHATEVER THE INPUT: true; the input reads as it did. -/
def fnExactMapTraceSpec : ChangeSpec := { name := "fnExactMapTrace", fn := fun _ => fun
  | [d1, d2] => { results := [.lit (.bool true)], args := [d1, d2] }
  | _ => none }
def fnExactMapTraceRow : OpenClaim := { program := "ytkbgdjpdmhnniaa", sum := "7880f0489e547bef7c412c534f0ae8b0adb58f3a78f4d5e30c4ccc260aca2745", func := "loop.example/dataflow/laws.FnExactMapTrace", spec := "fnExactMapTrace", unfollowed := true, recurses := true, apart := false }
def FnExactMapTraceSaid : Prop := fnExactMapTraceRow.holds Try.pinned (OpenSpec.ofChange fnExactMapTraceSpec)

/-- ITS FALSE NEIGHBOUR: 'it returns false'. Refute it at one input. -/
def fnExactMapTraceWrong : ChangeSpec := { name := "fnExactMapTrace", fn := fun _ => fun
  | [d1, d2] => { results := [.lit (.bool false)], args := [d1, d2] }
  | _ => none }
def FnExactMapTraceWrongFalsely : Prop := fnExactMapTraceRow.holds Try.pinned (OpenSpec.ofChange fnExactMapTraceWrong)

/-- 'laws.FnFrontierMeet': WHATEVER THE INPUT: true; the input reads as it did. -/
def fnFrontierMeetSpec : ChangeSpec := { name := "fnFrontierMeet", fn := fun _ => fun
  | [d1, d2] => { results := [.lit (.bool true)], args := [d1, d2] }
  | _ => none }
def fnFrontierMeetRow : OpenClaim := { program := "ytkbgdjpdmhnniaa", sum := "7880f0489e547bef7c412c534f0ae8b0adb58f3a78f4d5e30c4ccc260aca2745", func := "loop.example/dataflow/laws.FnFrontierMeet", spec := "fnFrontierMeet", unfollowed := true, recurses := true, apart := false }
def FnFrontierMeetSaid : Prop := fnFrontierMeetRow.holds Try.pinned (OpenSpec.ofChange fnFrontierMeetSpec)

/-- ITS FALSE NEIGHBOUR: 'it returns false'. Refute it at one input. -/
def fnFrontierMeetWrong : ChangeSpec := { name := "fnFrontierMeet", fn := fun _ => fun
  | [d1, d2] => { results := [.lit (.bool false)], args := [d1, d2] }
  | _ => none }
def FnFrontierMeetWrongFalsely : Prop := fnFrontierMeetRow.holds Try.pinned (OpenSpec.ofChange fnFrontierMeetWrong)

/-- 'laws.FnAsOf': WHATEVER THE INPUT: true; the input reads as it did. -/
def fnAsOfSpec : ChangeSpec := { name := "fnAsOf", fn := fun _ => fun
  | [d] => { results := [.lit (.bool true)], args := [d] }
  | _ => none }
def fnAsOfRow : OpenClaim := { program := "ytkbgdjpdmhnniaa", sum := "7880f0489e547bef7c412c534f0ae8b0adb58f3a78f4d5e30c4ccc260aca2745", func := "loop.example/dataflow/laws.FnAsOf", spec := "fnAsOf", unfollowed := true, recurses := true, apart := false }
def FnAsOfSaid : Prop := fnAsOfRow.holds Try.pinned (OpenSpec.ofChange fnAsOfSpec)

/-- ITS FALSE NEIGHBOUR: 'it returns false'. Refute it at one input. -/
def fnAsOfWrong : ChangeSpec := { name := "fnAsOf", fn := fun _ => fun
  | [d] => { results := [.lit (.bool false)], args := [d] }
  | _ => none }
def FnAsOfWrongFalsely : Prop := fnAsOfRow.holds Try.pinned (OpenSpec.ofChange fnAsOfWrong)

/-- 'laws.FnFrontierJoin': WHATEVER THE INPUT: true; the input reads as it did. -/
def fnFrontierJoinSpec : ChangeSpec := { name := "fnFrontierJoin", fn := fun _ => fun
  | [d1, d2] => { results := [.lit (.bool true)], args := [d1, d2] }
  | _ => none }
def fnFrontierJoinRow : OpenClaim := { program := "ytkbgdjpdmhnniaa", sum := "7880f0489e547bef7c412c534f0ae8b0adb58f3a78f4d5e30c4ccc260aca2745", func := "loop.example/dataflow/laws.FnFrontierJoin", spec := "fnFrontierJoin", unfollowed := true, recurses := true, apart := false }
def FnFrontierJoinSaid : Prop := fnFrontierJoinRow.holds Try.pinned (OpenSpec.ofChange fnFrontierJoinSpec)

/-- ITS FALSE NEIGHBOUR: 'it returns false'. Refute it at one input. -/
def fnFrontierJoinWrong : ChangeSpec := { name := "fnFrontierJoin", fn := fun _ => fun
  | [d1, d2] => { results := [.lit (.bool false)], args := [d1, d2] }
  | _ => none }
def FnFrontierJoinWrongFalsely : Prop := fnFrontierJoinRow.holds Try.pinned (OpenSpec.ofChange fnFrontierJoinWrong)

/-- 'laws.FnExactAsOf': WHATEVER THE INPUT: true; the input reads as it did. -/
def fnExactAsOfSpec : ChangeSpec := { name := "fnExactAsOf", fn := fun _ => fun
  | [d1, d2] => { results := [.lit (.bool true)], args := [d1, d2] }
  | _ => none }
def fnExactAsOfRow : OpenClaim := { program := "ytkbgdjpdmhnniaa", sum := "7880f0489e547bef7c412c534f0ae8b0adb58f3a78f4d5e30c4ccc260aca2745", func := "loop.example/dataflow/laws.FnExactAsOf", spec := "fnExactAsOf", unfollowed := true, recurses := true, apart := false }
def FnExactAsOfSaid : Prop := fnExactAsOfRow.holds Try.pinned (OpenSpec.ofChange fnExactAsOfSpec)

/-- ITS FALSE NEIGHBOUR: 'it returns false'. Refute it at one input. -/
def fnExactAsOfWrong : ChangeSpec := { name := "fnExactAsOf", fn := fun _ => fun
  | [d1, d2] => { results := [.lit (.bool false)], args := [d1, d2] }
  | _ => none }
def FnExactAsOfWrongFalsely : Prop := fnExactAsOfRow.holds Try.pinned (OpenSpec.ofChange fnExactAsOfWrong)

/-- 'laws.FnFilterTrace': WHATEVER THE INPUT: true; the input reads as it did. -/
def fnFilterTraceSpec : ChangeSpec := { name := "fnFilterTrace", fn := fun _ => fun
  | [d1, d2] => { results := [.lit (.bool true)], args := [d1, d2] }
  | _ => none }
def fnFilterTraceRow : OpenClaim := { program := "ytkbgdjpdmhnniaa", sum := "7880f0489e547bef7c412c534f0ae8b0adb58f3a78f4d5e30c4ccc260aca2745", func := "loop.example/dataflow/laws.FnFilterTrace", spec := "fnFilterTrace", unfollowed := true, recurses := true, apart := false }
def FnFilterTraceSaid : Prop := fnFilterTraceRow.holds Try.pinned (OpenSpec.ofChange fnFilterTraceSpec)

/-- ITS FALSE NEIGHBOUR: 'it returns false'. Refute it at one input. -/
def fnFilterTraceWrong : ChangeSpec := { name := "fnFilterTrace", fn := fun _ => fun
  | [d1, d2] => { results := [.lit (.bool false)], args := [d1, d2] }
  | _ => none }
def FnFilterTraceWrongFalsely : Prop := fnFilterTraceRow.holds Try.pinned (OpenSpec.ofChange fnFilterTraceWrong)

/-- 'laws.FnMapTrace': WHATEVER THE INPUT: true; the input reads as it did. -/
def fnMapTraceSpec : ChangeSpec := { name := "fnMapTrace", fn := fun _ => fun
  | [d1, d2] => { results := [.lit (.bool true)], args := [d1, d2] }
  | _ => none }
def fnMapTraceRow : OpenClaim := { program := "ytkbgdjpdmhnniaa", sum := "7880f0489e547bef7c412c534f0ae8b0adb58f3a78f4d5e30c4ccc260aca2745", func := "loop.example/dataflow/laws.FnMapTrace", spec := "fnMapTrace", unfollowed := true, recurses := true, apart := false }
def FnMapTraceSaid : Prop := fnMapTraceRow.holds Try.pinned (OpenSpec.ofChange fnMapTraceSpec)

/-- ITS FALSE NEIGHBOUR: 'it returns false'. Refute it at one input. -/
def fnMapTraceWrong : ChangeSpec := { name := "fnMapTrace", fn := fun _ => fun
  | [d1, d2] => { results := [.lit (.bool false)], args := [d1, d2] }
  | _ => none }
def FnMapTraceWrongFalsely : Prop := fnMapTraceRow.holds Try.pinned (OpenSpec.ofChange fnMapTraceWrong)

/-- 'laws.FnTraceTimes': WHATEVER THE INPUT: true; the input reads as it did. -/
def fnTraceTimesSpec : ChangeSpec := { name := "fnTraceTimes", fn := fun _ => fun
  | [d] => { results := [.lit (.bool true)], args := [d] }
  | _ => none }
def fnTraceTimesRow : OpenClaim := { program := "ytkbgdjpdmhnniaa", sum := "7880f0489e547bef7c412c534f0ae8b0adb58f3a78f4d5e30c4ccc260aca2745", func := "loop.example/dataflow/laws.FnTraceTimes", spec := "fnTraceTimes", unfollowed := true, recurses := true, apart := false }
def FnTraceTimesSaid : Prop := fnTraceTimesRow.holds Try.pinned (OpenSpec.ofChange fnTraceTimesSpec)

/-- ITS FALSE NEIGHBOUR: 'it returns false'. Refute it at one input. -/
def fnTraceTimesWrong : ChangeSpec := { name := "fnTraceTimes", fn := fun _ => fun
  | [d] => { results := [.lit (.bool false)], args := [d] }
  | _ => none }
def FnTraceTimesWrongFalsely : Prop := fnTraceTimesRow.holds Try.pinned (OpenSpec.ofChange fnTraceTimesWrong)

/-- 'laws.FnExactCompactTrace': WHATEVER THE INPUT: true; the input reads as it did. -/
def fnExactCompactTraceSpec : ChangeSpec := { name := "fnExactCompactTrace", fn := fun _ => fun
  | [d1, d2] => { results := [.lit (.bool true)], args := [d1, d2] }
  | _ => none }
def fnExactCompactTraceRow : OpenClaim := { program := "ytkbgdjpdmhnniaa", sum := "7880f0489e547bef7c412c534f0ae8b0adb58f3a78f4d5e30c4ccc260aca2745", func := "loop.example/dataflow/laws.FnExactCompactTrace", spec := "fnExactCompactTrace", unfollowed := true, recurses := true, apart := false }
def FnExactCompactTraceSaid : Prop := fnExactCompactTraceRow.holds Try.pinned (OpenSpec.ofChange fnExactCompactTraceSpec)

/-- ITS FALSE NEIGHBOUR: 'it returns false'. Refute it at one input. -/
def fnExactCompactTraceWrong : ChangeSpec := { name := "fnExactCompactTrace", fn := fun _ => fun
  | [d1, d2] => { results := [.lit (.bool false)], args := [d1, d2] }
  | _ => none }
def FnExactCompactTraceWrongFalsely : Prop := fnExactCompactTraceRow.holds Try.pinned (OpenSpec.ofChange fnExactCompactTraceWrong)

/-- 'laws.FnExactTraceTimes': WHATEVER THE INPUT: true; the input reads as it did. -/
def fnExactTraceTimesSpec : ChangeSpec := { name := "fnExactTraceTimes", fn := fun _ => fun
  | [d] => { results := [.lit (.bool true)], args := [d] }
  | _ => none }
def fnExactTraceTimesRow : OpenClaim := { program := "ytkbgdjpdmhnniaa", sum := "7880f0489e547bef7c412c534f0ae8b0adb58f3a78f4d5e30c4ccc260aca2745", func := "loop.example/dataflow/laws.FnExactTraceTimes", spec := "fnExactTraceTimes", unfollowed := true, recurses := true, apart := false }
def FnExactTraceTimesSaid : Prop := fnExactTraceTimesRow.holds Try.pinned (OpenSpec.ofChange fnExactTraceTimesSpec)

/-- ITS FALSE NEIGHBOUR: 'it returns false'. Refute it at one input. -/
def fnExactTraceTimesWrong : ChangeSpec := { name := "fnExactTraceTimes", fn := fun _ => fun
  | [d] => { results := [.lit (.bool false)], args := [d] }
  | _ => none }
def FnExactTraceTimesWrongFalsely : Prop := fnExactTraceTimesRow.holds Try.pinned (OpenSpec.ofChange fnExactTraceTimesWrong)

/-- 'laws.FnCompactTrace': WHATEVER THE INPUT: true; the input reads as it did. -/
def fnCompactTraceSpec : ChangeSpec := { name := "fnCompactTrace", fn := fun _ => fun
  | [d1, d2] => { results := [.lit (.bool true)], args := [d1, d2] }
  | _ => none }
def fnCompactTraceRow : OpenClaim := { program := "ytkbgdjpdmhnniaa", sum := "7880f0489e547bef7c412c534f0ae8b0adb58f3a78f4d5e30c4ccc260aca2745", func := "loop.example/dataflow/laws.FnCompactTrace", spec := "fnCompactTrace", unfollowed := true, recurses := true, apart := false }
def FnCompactTraceSaid : Prop := fnCompactTraceRow.holds Try.pinned (OpenSpec.ofChange fnCompactTraceSpec)

/-- ITS FALSE NEIGHBOUR: 'it returns false'. Refute it at one input. -/
def fnCompactTraceWrong : ChangeSpec := { name := "fnCompactTrace", fn := fun _ => fun
  | [d1, d2] => { results := [.lit (.bool false)], args := [d1, d2] }
  | _ => none }
def FnCompactTraceWrongFalsely : Prop := fnCompactTraceRow.holds Try.pinned (OpenSpec.ofChange fnCompactTraceWrong)

/- THE SECOND FORM. 'bulk': how many values and letters a reading holds, each counted each time it is reached (what is shared counts as often as it is met; a slice's spare places count too). A statement '..UptoSaid' is the law's where the arguments, and the package variables that the reading takes, are together of bulk at most 1048576: NARROWER than '..Said'. Prove '..Said' where nothing that the law and all that it calls make is longer than what came in: it says more and counts as full. Else prove '..UptoSaid'. A law counts once. -/
mutual
def uptoBulk {H : Type} : DataW H → Nat
  | .lit (.string bytes) => bytes.length + 1
  | .lit _ => 1
  | .nil => 1
  | .ptr d => uptoBulk d + 1
  | .slice elems spare => uptoBulkAll elems + uptoBulkAll spare + 1
  | .agg parts => uptoBulkAll parts + 1
  | .iface _ d => uptoBulk d + 1
  | .map entries => uptoBulkEntries entries + 1
  | .held _ => 1
def uptoBulkAll {H : Type} : List (DataW H) → Nat
  | [] => 0
  | d :: r => uptoBulk d + uptoBulkAll r
def uptoBulkEntries {H : Type} : List (Lit × DataW H) → Nat
  | [] => 0
  | x :: r => uptoBulkEntry x + uptoBulkEntries r
def uptoBulkEntry {H : Type} : Lit × DataW H → Nat
  | (.string bytes, d) => bytes.length + uptoBulk d + 1
  | (_, d) => uptoBulk d + 1
 end
def uptoSmall : (H : Type) → List (DataW H) → Bool := fun _ ds => decide (uptoBulkAll ds ≤ 1048576)
def OpenSpec.upto (s : _root_.Go.ChangeSpec) : _root_.Go.OpenSpec := { _root_.Go.OpenSpec.ofChange s with cond := some uptoSmall }

/-- 'laws.FnExactValidTrace', WHERE WHAT IT READS IS OF BULK AT MOST 1048576: true; the input reads as it did. -/
def fnExactValidTraceUptoRow : OpenClaim := { program := "ytkbgdjpdmhnniaa", sum := "7880f0489e547bef7c412c534f0ae8b0adb58f3a78f4d5e30c4ccc260aca2745", func := "loop.example/dataflow/laws.FnExactValidTrace", spec := "fnExactValidTrace", apart := false, narrowed := true }
def FnExactValidTraceUptoSaid : Prop := fnExactValidTraceUptoRow.holds Try.pinned (OpenSpec.upto fnExactValidTraceSpec)

/-- 'laws.FnNegate', WHERE WHAT IT READS IS OF BULK AT MOST 1048576: true; the input reads as it did. -/
def fnNegateUptoRow : OpenClaim := { program := "ytkbgdjpdmhnniaa", sum := "7880f0489e547bef7c412c534f0ae8b0adb58f3a78f4d5e30c4ccc260aca2745", func := "loop.example/dataflow/laws.FnNegate", spec := "fnNegate", apart := false, narrowed := true }
def FnNegateUptoSaid : Prop := fnNegateUptoRow.holds Try.pinned (OpenSpec.upto fnNegateSpec)

/-- 'laws.FnDistinct', WHERE WHAT IT READS IS OF BULK AT MOST 1048576: true; the input reads as it did. -/
def fnDistinctUptoRow : OpenClaim := { program := "ytkbgdjpdmhnniaa", sum := "7880f0489e547bef7c412c534f0ae8b0adb58f3a78f4d5e30c4ccc260aca2745", func := "loop.example/dataflow/laws.FnDistinct", spec := "fnDistinct", apart := false, narrowed := true }
def FnDistinctUptoSaid : Prop := fnDistinctUptoRow.holds Try.pinned (OpenSpec.upto fnDistinctSpec)

/-- 'laws.FnExactFilter', WHERE WHAT IT READS IS OF BULK AT MOST 1048576: true; the input reads as it did. -/
def fnExactFilterUptoRow : OpenClaim := { program := "ytkbgdjpdmhnniaa", sum := "7880f0489e547bef7c412c534f0ae8b0adb58f3a78f4d5e30c4ccc260aca2745", func := "loop.example/dataflow/laws.FnExactFilter", spec := "fnExactFilter", unfollowed := true, recurses := true, apart := false, narrowed := true }
def FnExactFilterUptoSaid : Prop := fnExactFilterUptoRow.holds Try.pinned (OpenSpec.upto fnExactFilterSpec)

/-- 'laws.FnNormalize', WHERE WHAT IT READS IS OF BULK AT MOST 1048576: true; the input reads as it did. -/
def fnNormalizeUptoRow : OpenClaim := { program := "ytkbgdjpdmhnniaa", sum := "7880f0489e547bef7c412c534f0ae8b0adb58f3a78f4d5e30c4ccc260aca2745", func := "loop.example/dataflow/laws.FnNormalize", spec := "fnNormalize", unfollowed := true, recurses := true, apart := false, narrowed := true }
def FnNormalizeUptoSaid : Prop := fnNormalizeUptoRow.holds Try.pinned (OpenSpec.upto fnNormalizeSpec)

/-- 'laws.FnNormalizeOrder', WHERE WHAT IT READS IS OF BULK AT MOST 1048576: true; the input reads as it did. -/
def fnNormalizeOrderUptoRow : OpenClaim := { program := "ytkbgdjpdmhnniaa", sum := "7880f0489e547bef7c412c534f0ae8b0adb58f3a78f4d5e30c4ccc260aca2745", func := "loop.example/dataflow/laws.FnNormalizeOrder", spec := "fnNormalizeOrder", unfollowed := true, recurses := true, apart := false, narrowed := true }
def FnNormalizeOrderUptoSaid : Prop := fnNormalizeOrderUptoRow.holds Try.pinned (OpenSpec.upto fnNormalizeOrderSpec)

/-- 'laws.FnConsolidate', WHERE WHAT IT READS IS OF BULK AT MOST 1048576: true; the input reads as it did. -/
def fnConsolidateUptoRow : OpenClaim := { program := "ytkbgdjpdmhnniaa", sum := "7880f0489e547bef7c412c534f0ae8b0adb58f3a78f4d5e30c4ccc260aca2745", func := "loop.example/dataflow/laws.FnConsolidate", spec := "fnConsolidate", unfollowed := true, recurses := true, apart := false, narrowed := true }
def FnConsolidateUptoSaid : Prop := fnConsolidateUptoRow.holds Try.pinned (OpenSpec.upto fnConsolidateSpec)

/-- 'laws.FnExactNormalize', WHERE WHAT IT READS IS OF BULK AT MOST 1048576: true; the input reads as it did. -/
def fnExactNormalizeUptoRow : OpenClaim := { program := "ytkbgdjpdmhnniaa", sum := "7880f0489e547bef7c412c534f0ae8b0adb58f3a78f4d5e30c4ccc260aca2745", func := "loop.example/dataflow/laws.FnExactNormalize", spec := "fnExactNormalize", unfollowed := true, recurses := true, apart := false, narrowed := true }
def FnExactNormalizeUptoSaid : Prop := fnExactNormalizeUptoRow.holds Try.pinned (OpenSpec.upto fnExactNormalizeSpec)

/-- 'laws.FnFilter', WHERE WHAT IT READS IS OF BULK AT MOST 1048576: true; the input reads as it did. -/
def fnFilterUptoRow : OpenClaim := { program := "ytkbgdjpdmhnniaa", sum := "7880f0489e547bef7c412c534f0ae8b0adb58f3a78f4d5e30c4ccc260aca2745", func := "loop.example/dataflow/laws.FnFilter", spec := "fnFilter", unfollowed := true, recurses := true, apart := false, narrowed := true }
def FnFilterUptoSaid : Prop := fnFilterUptoRow.holds Try.pinned (OpenSpec.upto fnFilterSpec)

/-- 'laws.FnExactMinimalTimes', WHERE WHAT IT READS IS OF BULK AT MOST 1048576: true; the input reads as it did. -/
def fnExactMinimalTimesUptoRow : OpenClaim := { program := "ytkbgdjpdmhnniaa", sum := "7880f0489e547bef7c412c534f0ae8b0adb58f3a78f4d5e30c4ccc260aca2745", func := "loop.example/dataflow/laws.FnExactMinimalTimes", spec := "fnExactMinimalTimes", unfollowed := true, recurses := true, apart := false, narrowed := true }
def FnExactMinimalTimesUptoSaid : Prop := fnExactMinimalTimesUptoRow.holds Try.pinned (OpenSpec.upto fnExactMinimalTimesSpec)

/-- 'laws.FnExactMapColumns', WHERE WHAT IT READS IS OF BULK AT MOST 1048576: true; the input reads as it did. -/
def fnExactMapColumnsUptoRow : OpenClaim := { program := "ytkbgdjpdmhnniaa", sum := "7880f0489e547bef7c412c534f0ae8b0adb58f3a78f4d5e30c4ccc260aca2745", func := "loop.example/dataflow/laws.FnExactMapColumns", spec := "fnExactMapColumns", unfollowed := true, recurses := true, apart := false, narrowed := true }
def FnExactMapColumnsUptoSaid : Prop := fnExactMapColumnsUptoRow.holds Try.pinned (OpenSpec.upto fnExactMapColumnsSpec)

/-- 'laws.FnExactConsolidate', WHERE WHAT IT READS IS OF BULK AT MOST 1048576: true; the input reads as it did. -/
def fnExactConsolidateUptoRow : OpenClaim := { program := "ytkbgdjpdmhnniaa", sum := "7880f0489e547bef7c412c534f0ae8b0adb58f3a78f4d5e30c4ccc260aca2745", func := "loop.example/dataflow/laws.FnExactConsolidate", spec := "fnExactConsolidate", unfollowed := true, recurses := true, apart := false, narrowed := true }
def FnExactConsolidateUptoSaid : Prop := fnExactConsolidateUptoRow.holds Try.pinned (OpenSpec.upto fnExactConsolidateSpec)

/-- 'laws.FnFilterLinear', WHERE WHAT IT READS IS OF BULK AT MOST 1048576: true; the input reads as it did. -/
def fnFilterLinearUptoRow : OpenClaim := { program := "ytkbgdjpdmhnniaa", sum := "7880f0489e547bef7c412c534f0ae8b0adb58f3a78f4d5e30c4ccc260aca2745", func := "loop.example/dataflow/laws.FnFilterLinear", spec := "fnFilterLinear", unfollowed := true, recurses := true, apart := false, narrowed := true }
def FnFilterLinearUptoSaid : Prop := fnFilterLinearUptoRow.holds Try.pinned (OpenSpec.upto fnFilterLinearSpec)

/-- 'laws.FnExactFrontierMeet', WHERE WHAT IT READS IS OF BULK AT MOST 1048576: true; the input reads as it did. -/
def fnExactFrontierMeetUptoRow : OpenClaim := { program := "ytkbgdjpdmhnniaa", sum := "7880f0489e547bef7c412c534f0ae8b0adb58f3a78f4d5e30c4ccc260aca2745", func := "loop.example/dataflow/laws.FnExactFrontierMeet", spec := "fnExactFrontierMeet", unfollowed := true, recurses := true, apart := false, narrowed := true }
def FnExactFrontierMeetUptoSaid : Prop := fnExactFrontierMeetUptoRow.holds Try.pinned (OpenSpec.upto fnExactFrontierMeetSpec)

/-- 'laws.FnExactFilterTrace', WHERE WHAT IT READS IS OF BULK AT MOST 1048576: true; the input reads as it did. -/
def fnExactFilterTraceUptoRow : OpenClaim := { program := "ytkbgdjpdmhnniaa", sum := "7880f0489e547bef7c412c534f0ae8b0adb58f3a78f4d5e30c4ccc260aca2745", func := "loop.example/dataflow/laws.FnExactFilterTrace", spec := "fnExactFilterTrace", unfollowed := true, recurses := true, apart := false, narrowed := true }
def FnExactFilterTraceUptoSaid : Prop := fnExactFilterTraceUptoRow.holds Try.pinned (OpenSpec.upto fnExactFilterTraceSpec)

/-- 'laws.FnMapColumns', WHERE WHAT IT READS IS OF BULK AT MOST 1048576: true; the input reads as it did. -/
def fnMapColumnsUptoRow : OpenClaim := { program := "ytkbgdjpdmhnniaa", sum := "7880f0489e547bef7c412c534f0ae8b0adb58f3a78f4d5e30c4ccc260aca2745", func := "loop.example/dataflow/laws.FnMapColumns", spec := "fnMapColumns", unfollowed := true, recurses := true, apart := false, narrowed := true }
def FnMapColumnsUptoSaid : Prop := fnMapColumnsUptoRow.holds Try.pinned (OpenSpec.upto fnMapColumnsSpec)

/-- 'laws.FnMapLinear', WHERE WHAT IT READS IS OF BULK AT MOST 1048576: true; the input reads as it did. -/
def fnMapLinearUptoRow : OpenClaim := { program := "ytkbgdjpdmhnniaa", sum := "7880f0489e547bef7c412c534f0ae8b0adb58f3a78f4d5e30c4ccc260aca2745", func := "loop.example/dataflow/laws.FnMapLinear", spec := "fnMapLinear", unfollowed := true, recurses := true, apart := false, narrowed := true }
def FnMapLinearUptoSaid : Prop := fnMapLinearUptoRow.holds Try.pinned (OpenSpec.upto fnMapLinearSpec)

/-- 'laws.FnMinimalTimes', WHERE WHAT IT READS IS OF BULK AT MOST 1048576: true; the input reads as it did. -/
def fnMinimalTimesUptoRow : OpenClaim := { program := "ytkbgdjpdmhnniaa", sum := "7880f0489e547bef7c412c534f0ae8b0adb58f3a78f4d5e30c4ccc260aca2745", func := "loop.example/dataflow/laws.FnMinimalTimes", spec := "fnMinimalTimes", unfollowed := true, recurses := true, apart := false, narrowed := true }
def FnMinimalTimesUptoSaid : Prop := fnMinimalTimesUptoRow.holds Try.pinned (OpenSpec.upto fnMinimalTimesSpec)

/-- 'laws.FnExactFrontierJoin', WHERE WHAT IT READS IS OF BULK AT MOST 1048576: true; the input reads as it did. -/
def fnExactFrontierJoinUptoRow : OpenClaim := { program := "ytkbgdjpdmhnniaa", sum := "7880f0489e547bef7c412c534f0ae8b0adb58f3a78f4d5e30c4ccc260aca2745", func := "loop.example/dataflow/laws.FnExactFrontierJoin", spec := "fnExactFrontierJoin", unfollowed := true, recurses := true, apart := false, narrowed := true }
def FnExactFrontierJoinUptoSaid : Prop := fnExactFrontierJoinUptoRow.holds Try.pinned (OpenSpec.upto fnExactFrontierJoinSpec)

/-- 'laws.FnExactMapTrace', WHERE WHAT IT READS IS OF BULK AT MOST 1048576: true; the input reads as it did. -/
def fnExactMapTraceUptoRow : OpenClaim := { program := "ytkbgdjpdmhnniaa", sum := "7880f0489e547bef7c412c534f0ae8b0adb58f3a78f4d5e30c4ccc260aca2745", func := "loop.example/dataflow/laws.FnExactMapTrace", spec := "fnExactMapTrace", unfollowed := true, recurses := true, apart := false, narrowed := true }
def FnExactMapTraceUptoSaid : Prop := fnExactMapTraceUptoRow.holds Try.pinned (OpenSpec.upto fnExactMapTraceSpec)

/-- 'laws.FnFrontierMeet', WHERE WHAT IT READS IS OF BULK AT MOST 1048576: true; the input reads as it did. -/
def fnFrontierMeetUptoRow : OpenClaim := { program := "ytkbgdjpdmhnniaa", sum := "7880f0489e547bef7c412c534f0ae8b0adb58f3a78f4d5e30c4ccc260aca2745", func := "loop.example/dataflow/laws.FnFrontierMeet", spec := "fnFrontierMeet", unfollowed := true, recurses := true, apart := false, narrowed := true }
def FnFrontierMeetUptoSaid : Prop := fnFrontierMeetUptoRow.holds Try.pinned (OpenSpec.upto fnFrontierMeetSpec)

/-- 'laws.FnAsOf', WHERE WHAT IT READS IS OF BULK AT MOST 1048576: true; the input reads as it did. -/
def fnAsOfUptoRow : OpenClaim := { program := "ytkbgdjpdmhnniaa", sum := "7880f0489e547bef7c412c534f0ae8b0adb58f3a78f4d5e30c4ccc260aca2745", func := "loop.example/dataflow/laws.FnAsOf", spec := "fnAsOf", unfollowed := true, recurses := true, apart := false, narrowed := true }
def FnAsOfUptoSaid : Prop := fnAsOfUptoRow.holds Try.pinned (OpenSpec.upto fnAsOfSpec)

/-- 'laws.FnFrontierJoin', WHERE WHAT IT READS IS OF BULK AT MOST 1048576: true; the input reads as it did. -/
def fnFrontierJoinUptoRow : OpenClaim := { program := "ytkbgdjpdmhnniaa", sum := "7880f0489e547bef7c412c534f0ae8b0adb58f3a78f4d5e30c4ccc260aca2745", func := "loop.example/dataflow/laws.FnFrontierJoin", spec := "fnFrontierJoin", unfollowed := true, recurses := true, apart := false, narrowed := true }
def FnFrontierJoinUptoSaid : Prop := fnFrontierJoinUptoRow.holds Try.pinned (OpenSpec.upto fnFrontierJoinSpec)

/-- 'laws.FnExactAsOf', WHERE WHAT IT READS IS OF BULK AT MOST 1048576: true; the input reads as it did. -/
def fnExactAsOfUptoRow : OpenClaim := { program := "ytkbgdjpdmhnniaa", sum := "7880f0489e547bef7c412c534f0ae8b0adb58f3a78f4d5e30c4ccc260aca2745", func := "loop.example/dataflow/laws.FnExactAsOf", spec := "fnExactAsOf", unfollowed := true, recurses := true, apart := false, narrowed := true }
def FnExactAsOfUptoSaid : Prop := fnExactAsOfUptoRow.holds Try.pinned (OpenSpec.upto fnExactAsOfSpec)

/-- 'laws.FnFilterTrace', WHERE WHAT IT READS IS OF BULK AT MOST 1048576: true; the input reads as it did. -/
def fnFilterTraceUptoRow : OpenClaim := { program := "ytkbgdjpdmhnniaa", sum := "7880f0489e547bef7c412c534f0ae8b0adb58f3a78f4d5e30c4ccc260aca2745", func := "loop.example/dataflow/laws.FnFilterTrace", spec := "fnFilterTrace", unfollowed := true, recurses := true, apart := false, narrowed := true }
def FnFilterTraceUptoSaid : Prop := fnFilterTraceUptoRow.holds Try.pinned (OpenSpec.upto fnFilterTraceSpec)

/-- 'laws.FnMapTrace', WHERE WHAT IT READS IS OF BULK AT MOST 1048576: true; the input reads as it did. -/
def fnMapTraceUptoRow : OpenClaim := { program := "ytkbgdjpdmhnniaa", sum := "7880f0489e547bef7c412c534f0ae8b0adb58f3a78f4d5e30c4ccc260aca2745", func := "loop.example/dataflow/laws.FnMapTrace", spec := "fnMapTrace", unfollowed := true, recurses := true, apart := false, narrowed := true }
def FnMapTraceUptoSaid : Prop := fnMapTraceUptoRow.holds Try.pinned (OpenSpec.upto fnMapTraceSpec)

/-- 'laws.FnTraceTimes', WHERE WHAT IT READS IS OF BULK AT MOST 1048576: true; the input reads as it did. -/
def fnTraceTimesUptoRow : OpenClaim := { program := "ytkbgdjpdmhnniaa", sum := "7880f0489e547bef7c412c534f0ae8b0adb58f3a78f4d5e30c4ccc260aca2745", func := "loop.example/dataflow/laws.FnTraceTimes", spec := "fnTraceTimes", unfollowed := true, recurses := true, apart := false, narrowed := true }
def FnTraceTimesUptoSaid : Prop := fnTraceTimesUptoRow.holds Try.pinned (OpenSpec.upto fnTraceTimesSpec)

/-- 'laws.FnExactCompactTrace', WHERE WHAT IT READS IS OF BULK AT MOST 1048576: true; the input reads as it did. -/
def fnExactCompactTraceUptoRow : OpenClaim := { program := "ytkbgdjpdmhnniaa", sum := "7880f0489e547bef7c412c534f0ae8b0adb58f3a78f4d5e30c4ccc260aca2745", func := "loop.example/dataflow/laws.FnExactCompactTrace", spec := "fnExactCompactTrace", unfollowed := true, recurses := true, apart := false, narrowed := true }
def FnExactCompactTraceUptoSaid : Prop := fnExactCompactTraceUptoRow.holds Try.pinned (OpenSpec.upto fnExactCompactTraceSpec)

/-- 'laws.FnExactTraceTimes', WHERE WHAT IT READS IS OF BULK AT MOST 1048576: true; the input reads as it did. -/
def fnExactTraceTimesUptoRow : OpenClaim := { program := "ytkbgdjpdmhnniaa", sum := "7880f0489e547bef7c412c534f0ae8b0adb58f3a78f4d5e30c4ccc260aca2745", func := "loop.example/dataflow/laws.FnExactTraceTimes", spec := "fnExactTraceTimes", unfollowed := true, recurses := true, apart := false, narrowed := true }
def FnExactTraceTimesUptoSaid : Prop := fnExactTraceTimesUptoRow.holds Try.pinned (OpenSpec.upto fnExactTraceTimesSpec)

/-- 'laws.FnCompactTrace', WHERE WHAT IT READS IS OF BULK AT MOST 1048576: true; the input reads as it did. -/
def fnCompactTraceUptoRow : OpenClaim := { program := "ytkbgdjpdmhnniaa", sum := "7880f0489e547bef7c412c534f0ae8b0adb58f3a78f4d5e30c4ccc260aca2745", func := "loop.example/dataflow/laws.FnCompactTrace", spec := "fnCompactTrace", unfollowed := true, recurses := true, apart := false, narrowed := true }
def FnCompactTraceUptoSaid : Prop := fnCompactTraceUptoRow.holds Try.pinned (OpenSpec.upto fnCompactTraceSpec)

end Rows
end Go.Proofs.Ytkbgdjpdmhnniaa
