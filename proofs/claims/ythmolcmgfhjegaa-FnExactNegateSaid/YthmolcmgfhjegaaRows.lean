/-
  No cell of these rows narrows 'for every input' (looked for: loops, veiled, ifaces, maps, wideKeys, modest, calm, conditions, laid).
  DERIVED. THE GIVEN ROWS OF THIS SEAT. 14 by the template 'for every input the law returns true; each argument reads behind the call as it read before'; 0 by the template 'total and deterministic' (their statements: YthmolcmgfhjegaaTotals.lean).
  GIVEN WITH THE SEED: the statements are not yours to turn. If you find one false, say at which input.
  Laid BY PROGRAM, IN A SANDBOX (cutbox-rows.mjs): the forced cells as the released guide's own fill.sh prints them over the translation f7cae827ff055a53… (all of the seat's roots in one cut). By AI agents, Wed Nov 11 2026. No macro, syntax, notation, axiom, sorry.
-/
import Derived.Test.YthmolcmgfhjegaaChecked
import GoSem.Claim
import GoSem.ClaimJoined
import GoSem.ClaimMapViews
import Derived.JoinedTies
import Derived.KernelRfl
namespace Go.Proofs.Ythmolcmgfhjegaa
/- THE CELL 'sum', in the pinned program and in every row, IS THE sha256 OF THE DUMP (.gsa) THAT YthmolcmgfhjegaaProg.lean LOADS. Nothing in Lean hashes anything: it is a label: what it is worth is what the hold of that sum in a sandbox is worth. -/
noncomputable def Try.pinned : Pinned := { name := "ythmolcmgfhjegaa", sum := "f7cae827ff055a5323028cf0051a32817d073cc7d2bf351913c77ee462713406", checked := Try.checked }
namespace Rows
def none {H : Type} : Left H := { results := [], args := [] }

/-- 'laws.FnExactWeightOf': WHATEVER THE INPUT: true; the input reads as it did. -/
def fnExactWeightOfSpec : ChangeSpec := { name := "fnExactWeightOf", fn := fun _ => fun
  | [d1, d2] => { results := [.lit (.bool true)], args := [d1, d2] }
  | _ => none }
def fnExactWeightOfRow : OpenClaim := { program := "ythmolcmgfhjegaa", sum := "f7cae827ff055a5323028cf0051a32817d073cc7d2bf351913c77ee462713406", func := "loop.example/dataflow/laws.FnExactWeightOf", spec := "fnExactWeightOf", apart := false }
def FnExactWeightOfSaid : Prop := fnExactWeightOfRow.holds Try.pinned (OpenSpec.ofChange fnExactWeightOfSpec)

/-- ITS FALSE NEIGHBOUR: 'it returns false'. Refute it at one input. -/
def fnExactWeightOfWrong : ChangeSpec := { name := "fnExactWeightOf", fn := fun _ => fun
  | [d1, d2] => { results := [.lit (.bool false)], args := [d1, d2] }
  | _ => none }
def FnExactWeightOfWrongFalsely : Prop := fnExactWeightOfRow.holds Try.pinned (OpenSpec.ofChange fnExactWeightOfWrong)

/-- 'laws.FnExactDistinct': WHATEVER THE INPUT: true; the input reads as it did. -/
def fnExactDistinctSpec : ChangeSpec := { name := "fnExactDistinct", fn := fun _ => fun
  | [d] => { results := [.lit (.bool true)], args := [d] }
  | _ => none }
def fnExactDistinctRow : OpenClaim := { program := "ythmolcmgfhjegaa", sum := "f7cae827ff055a5323028cf0051a32817d073cc7d2bf351913c77ee462713406", func := "loop.example/dataflow/laws.FnExactDistinct", spec := "fnExactDistinct", apart := false }
def FnExactDistinctSaid : Prop := fnExactDistinctRow.holds Try.pinned (OpenSpec.ofChange fnExactDistinctSpec)

/-- ITS FALSE NEIGHBOUR: 'it returns false'. Refute it at one input. -/
def fnExactDistinctWrong : ChangeSpec := { name := "fnExactDistinct", fn := fun _ => fun
  | [d] => { results := [.lit (.bool false)], args := [d] }
  | _ => none }
def FnExactDistinctWrongFalsely : Prop := fnExactDistinctRow.holds Try.pinned (OpenSpec.ofChange fnExactDistinctWrong)

/-- 'laws.FnExactNegate': WHATEVER THE INPUT: true; the input reads as it did. -/
def fnExactNegateSpec : ChangeSpec := { name := "fnExactNegate", fn := fun _ => fun
  | [d] => { results := [.lit (.bool true)], args := [d] }
  | _ => none }
def fnExactNegateRow : OpenClaim := { program := "ythmolcmgfhjegaa", sum := "f7cae827ff055a5323028cf0051a32817d073cc7d2bf351913c77ee462713406", func := "loop.example/dataflow/laws.FnExactNegate", spec := "fnExactNegate", apart := false }
def FnExactNegateSaid : Prop := fnExactNegateRow.holds Try.pinned (OpenSpec.ofChange fnExactNegateSpec)

/-- ITS FALSE NEIGHBOUR: 'it returns false'. Refute it at one input. -/
def fnExactNegateWrong : ChangeSpec := { name := "fnExactNegate", fn := fun _ => fun
  | [d] => { results := [.lit (.bool false)], args := [d] }
  | _ => none }
def FnExactNegateWrongFalsely : Prop := fnExactNegateRow.holds Try.pinned (OpenSpec.ofChange fnExactNegateWrong)

/-- 'laws.FnNegate': WHATEVER THE INPUT: true; the input reads as it did. -/
def fnNegateSpec : ChangeSpec := { name := "fnNegate", fn := fun _ => fun
  | [d] => { results := [.lit (.bool true)], args := [d] }
  | _ => none }
def fnNegateRow : OpenClaim := { program := "ythmolcmgfhjegaa", sum := "f7cae827ff055a5323028cf0051a32817d073cc7d2bf351913c77ee462713406", func := "loop.example/dataflow/laws.FnNegate", spec := "fnNegate", apart := false }
def FnNegateSaid : Prop := fnNegateRow.holds Try.pinned (OpenSpec.ofChange fnNegateSpec)

/-- ITS FALSE NEIGHBOUR: 'it returns false'. Refute it at one input. -/
def fnNegateWrong : ChangeSpec := { name := "fnNegate", fn := fun _ => fun
  | [d] => { results := [.lit (.bool false)], args := [d] }
  | _ => none }
def FnNegateWrongFalsely : Prop := fnNegateRow.holds Try.pinned (OpenSpec.ofChange fnNegateWrong)

/-- 'laws.FnDistinct': WHATEVER THE INPUT: true; the input reads as it did. -/
def fnDistinctSpec : ChangeSpec := { name := "fnDistinct", fn := fun _ => fun
  | [d] => { results := [.lit (.bool true)], args := [d] }
  | _ => none }
def fnDistinctRow : OpenClaim := { program := "ythmolcmgfhjegaa", sum := "f7cae827ff055a5323028cf0051a32817d073cc7d2bf351913c77ee462713406", func := "loop.example/dataflow/laws.FnDistinct", spec := "fnDistinct", apart := false }
def FnDistinctSaid : Prop := fnDistinctRow.holds Try.pinned (OpenSpec.ofChange fnDistinctSpec)

/-- ITS FALSE NEIGHBOUR: 'it returns false'. Refute it at one input. -/
def fnDistinctWrong : ChangeSpec := { name := "fnDistinct", fn := fun _ => fun
  | [d] => { results := [.lit (.bool false)], args := [d] }
  | _ => none }
def FnDistinctWrongFalsely : Prop := fnDistinctRow.holds Try.pinned (OpenSpec.ofChange fnDistinctWrong)

/-- 'laws.FnExactFilter': WHATEVER THE INPUT: true; the input reads as it did. -/
def fnExactFilterSpec : ChangeSpec := { name := "fnExactFilter", fn := fun _ => fun
  | [d1, d2] => { results := [.lit (.bool true)], args := [d1, d2] }
  | _ => none }
def fnExactFilterRow : OpenClaim := { program := "ythmolcmgfhjegaa", sum := "f7cae827ff055a5323028cf0051a32817d073cc7d2bf351913c77ee462713406", func := "loop.example/dataflow/laws.FnExactFilter", spec := "fnExactFilter", unfollowed := true, recurses := true, apart := false }
def FnExactFilterSaid : Prop := fnExactFilterRow.holds Try.pinned (OpenSpec.ofChange fnExactFilterSpec)

/-- ITS FALSE NEIGHBOUR: 'it returns false'. Refute it at one input. -/
def fnExactFilterWrong : ChangeSpec := { name := "fnExactFilter", fn := fun _ => fun
  | [d1, d2] => { results := [.lit (.bool false)], args := [d1, d2] }
  | _ => none }
def FnExactFilterWrongFalsely : Prop := fnExactFilterRow.holds Try.pinned (OpenSpec.ofChange fnExactFilterWrong)

/-- 'laws.FnFilter': WHATEVER THE INPUT: true; the input reads as it did. -/
def fnFilterSpec : ChangeSpec := { name := "fnFilter", fn := fun _ => fun
  | [d] => { results := [.lit (.bool true)], args := [d] }
  | _ => none }
def fnFilterRow : OpenClaim := { program := "ythmolcmgfhjegaa", sum := "f7cae827ff055a5323028cf0051a32817d073cc7d2bf351913c77ee462713406", func := "loop.example/dataflow/laws.FnFilter", spec := "fnFilter", unfollowed := true, recurses := true, apart := false }
def FnFilterSaid : Prop := fnFilterRow.holds Try.pinned (OpenSpec.ofChange fnFilterSpec)

/-- ITS FALSE NEIGHBOUR: 'it returns false'. Refute it at one input. -/
def fnFilterWrong : ChangeSpec := { name := "fnFilter", fn := fun _ => fun
  | [d] => { results := [.lit (.bool false)], args := [d] }
  | _ => none }
def FnFilterWrongFalsely : Prop := fnFilterRow.holds Try.pinned (OpenSpec.ofChange fnFilterWrong)

/-- 'laws.FnNormalize': WHATEVER THE INPUT: true; the input reads as it did. -/
def fnNormalizeSpec : ChangeSpec := { name := "fnNormalize", fn := fun _ => fun
  | [d] => { results := [.lit (.bool true)], args := [d] }
  | _ => none }
def fnNormalizeRow : OpenClaim := { program := "ythmolcmgfhjegaa", sum := "f7cae827ff055a5323028cf0051a32817d073cc7d2bf351913c77ee462713406", func := "loop.example/dataflow/laws.FnNormalize", spec := "fnNormalize", unfollowed := true, recurses := true, apart := false }
def FnNormalizeSaid : Prop := fnNormalizeRow.holds Try.pinned (OpenSpec.ofChange fnNormalizeSpec)

/-- ITS FALSE NEIGHBOUR: 'it returns false'. Refute it at one input. -/
def fnNormalizeWrong : ChangeSpec := { name := "fnNormalize", fn := fun _ => fun
  | [d] => { results := [.lit (.bool false)], args := [d] }
  | _ => none }
def FnNormalizeWrongFalsely : Prop := fnNormalizeRow.holds Try.pinned (OpenSpec.ofChange fnNormalizeWrong)

/-- 'laws.FnNormalizeOrder': WHATEVER THE INPUT: true; the input reads as it did. -/
def fnNormalizeOrderSpec : ChangeSpec := { name := "fnNormalizeOrder", fn := fun _ => fun
  | [d] => { results := [.lit (.bool true)], args := [d] }
  | _ => none }
def fnNormalizeOrderRow : OpenClaim := { program := "ythmolcmgfhjegaa", sum := "f7cae827ff055a5323028cf0051a32817d073cc7d2bf351913c77ee462713406", func := "loop.example/dataflow/laws.FnNormalizeOrder", spec := "fnNormalizeOrder", unfollowed := true, recurses := true, apart := false }
def FnNormalizeOrderSaid : Prop := fnNormalizeOrderRow.holds Try.pinned (OpenSpec.ofChange fnNormalizeOrderSpec)

/-- ITS FALSE NEIGHBOUR: 'it returns false'. Refute it at one input. -/
def fnNormalizeOrderWrong : ChangeSpec := { name := "fnNormalizeOrder", fn := fun _ => fun
  | [d] => { results := [.lit (.bool false)], args := [d] }
  | _ => none }
def FnNormalizeOrderWrongFalsely : Prop := fnNormalizeOrderRow.holds Try.pinned (OpenSpec.ofChange fnNormalizeOrderWrong)

/-- 'laws.FnExactNormalize': WHATEVER THE INPUT: true; the input reads as it did. -/
def fnExactNormalizeSpec : ChangeSpec := { name := "fnExactNormalize", fn := fun _ => fun
  | [d] => { results := [.lit (.bool true)], args := [d] }
  | _ => none }
def fnExactNormalizeRow : OpenClaim := { program := "ythmolcmgfhjegaa", sum := "f7cae827ff055a5323028cf0051a32817d073cc7d2bf351913c77ee462713406", func := "loop.example/dataflow/laws.FnExactNormalize", spec := "fnExactNormalize", unfollowed := true, recurses := true, apart := false }
def FnExactNormalizeSaid : Prop := fnExactNormalizeRow.holds Try.pinned (OpenSpec.ofChange fnExactNormalizeSpec)

/-- ITS FALSE NEIGHBOUR: 'it returns false'. Refute it at one input. -/
def fnExactNormalizeWrong : ChangeSpec := { name := "fnExactNormalize", fn := fun _ => fun
  | [d] => { results := [.lit (.bool false)], args := [d] }
  | _ => none }
def FnExactNormalizeWrongFalsely : Prop := fnExactNormalizeRow.holds Try.pinned (OpenSpec.ofChange fnExactNormalizeWrong)

/-- 'laws.FnExactMapColumns': WHATEVER THE INPUT: true; the input reads as it did. -/
def fnExactMapColumnsSpec : ChangeSpec := { name := "fnExactMapColumns", fn := fun _ => fun
  | [d1, d2] => { results := [.lit (.bool true)], args := [d1, d2] }
  | _ => none }
def fnExactMapColumnsRow : OpenClaim := { program := "ythmolcmgfhjegaa", sum := "f7cae827ff055a5323028cf0051a32817d073cc7d2bf351913c77ee462713406", func := "loop.example/dataflow/laws.FnExactMapColumns", spec := "fnExactMapColumns", unfollowed := true, recurses := true, apart := false }
def FnExactMapColumnsSaid : Prop := fnExactMapColumnsRow.holds Try.pinned (OpenSpec.ofChange fnExactMapColumnsSpec)

/-- ITS FALSE NEIGHBOUR: 'it returns false'. Refute it at one input. -/
def fnExactMapColumnsWrong : ChangeSpec := { name := "fnExactMapColumns", fn := fun _ => fun
  | [d1, d2] => { results := [.lit (.bool false)], args := [d1, d2] }
  | _ => none }
def FnExactMapColumnsWrongFalsely : Prop := fnExactMapColumnsRow.holds Try.pinned (OpenSpec.ofChange fnExactMapColumnsWrong)

/-- 'laws.FnMapColumns': WHATEVER THE INPUT: true; the input reads as it did. -/
def fnMapColumnsSpec : ChangeSpec := { name := "fnMapColumns", fn := fun _ => fun
  | [d] => { results := [.lit (.bool true)], args := [d] }
  | _ => none }
def fnMapColumnsRow : OpenClaim := { program := "ythmolcmgfhjegaa", sum := "f7cae827ff055a5323028cf0051a32817d073cc7d2bf351913c77ee462713406", func := "loop.example/dataflow/laws.FnMapColumns", spec := "fnMapColumns", unfollowed := true, recurses := true, apart := false }
def FnMapColumnsSaid : Prop := fnMapColumnsRow.holds Try.pinned (OpenSpec.ofChange fnMapColumnsSpec)

/-- ITS FALSE NEIGHBOUR: 'it returns false'. Refute it at one input. -/
def fnMapColumnsWrong : ChangeSpec := { name := "fnMapColumns", fn := fun _ => fun
  | [d] => { results := [.lit (.bool false)], args := [d] }
  | _ => none }
def FnMapColumnsWrongFalsely : Prop := fnMapColumnsRow.holds Try.pinned (OpenSpec.ofChange fnMapColumnsWrong)

/-- 'laws.FnFilterLinear': WHATEVER THE INPUT: true; the input reads as it did. -/
def fnFilterLinearSpec : ChangeSpec := { name := "fnFilterLinear", fn := fun _ => fun
  | [d1, d2] => { results := [.lit (.bool true)], args := [d1, d2] }
  | _ => none }
def fnFilterLinearRow : OpenClaim := { program := "ythmolcmgfhjegaa", sum := "f7cae827ff055a5323028cf0051a32817d073cc7d2bf351913c77ee462713406", func := "loop.example/dataflow/laws.FnFilterLinear", spec := "fnFilterLinear", unfollowed := true, recurses := true, apart := false }
def FnFilterLinearSaid : Prop := fnFilterLinearRow.holds Try.pinned (OpenSpec.ofChange fnFilterLinearSpec)

/-- ITS FALSE NEIGHBOUR: 'it returns false'. Refute it at one input. -/
def fnFilterLinearWrong : ChangeSpec := { name := "fnFilterLinear", fn := fun _ => fun
  | [d1, d2] => { results := [.lit (.bool false)], args := [d1, d2] }
  | _ => none }
def FnFilterLinearWrongFalsely : Prop := fnFilterLinearRow.holds Try.pinned (OpenSpec.ofChange fnFilterLinearWrong)

/-- 'laws.FnMapLinear': WHATEVER THE INPUT: true; the input reads as it did. -/
def fnMapLinearSpec : ChangeSpec := { name := "fnMapLinear", fn := fun _ => fun
  | [d1, d2] => { results := [.lit (.bool true)], args := [d1, d2] }
  | _ => none }
def fnMapLinearRow : OpenClaim := { program := "ythmolcmgfhjegaa", sum := "f7cae827ff055a5323028cf0051a32817d073cc7d2bf351913c77ee462713406", func := "loop.example/dataflow/laws.FnMapLinear", spec := "fnMapLinear", unfollowed := true, recurses := true, apart := false }
def FnMapLinearSaid : Prop := fnMapLinearRow.holds Try.pinned (OpenSpec.ofChange fnMapLinearSpec)

/-- ITS FALSE NEIGHBOUR: 'it returns false'. Refute it at one input. -/
def fnMapLinearWrong : ChangeSpec := { name := "fnMapLinear", fn := fun _ => fun
  | [d1, d2] => { results := [.lit (.bool false)], args := [d1, d2] }
  | _ => none }
def FnMapLinearWrongFalsely : Prop := fnMapLinearRow.holds Try.pinned (OpenSpec.ofChange fnMapLinearWrong)

/- THE SECOND FORM. 'bulk': how many values and letters a reading holds, each counted each time it is reached (what is shared counts as often as it is met; a slice's spare places count too). A statement '..UptoSaid' is the law's where the arguments, and the package variables that the reading takes, are together of bulk at most 1048576: NARROWER than '..Said'. Prove '..Said' where nothing that the law and all that it calls make is longer than what came in: it says more and counts as full. Else prove '..UptoSaid'. A law counts once. -/
mutual
def uptoBulk {H : Type} : DataW H → Nat
  | .lit (.string bytes) => bytes.length + 1
  | .lit _ => 1
  | .nil => 1
  | .ptr d => uptoBulk d + 1
  | .slice elems spare => uptoBulkAll elems + uptoBulkAll spare + 1
  | .agg parts => uptoBulkAll parts + 1
  | .iface _ d => uptoBulk d + 1
  | .map entries => uptoBulkEntries entries + 1
  | .held _ => 1
def uptoBulkAll {H : Type} : List (DataW H) → Nat
  | [] => 0
  | d :: r => uptoBulk d + uptoBulkAll r
def uptoBulkEntries {H : Type} : List (Lit × DataW H) → Nat
  | [] => 0
  | x :: r => uptoBulkEntry x + uptoBulkEntries r
def uptoBulkEntry {H : Type} : Lit × DataW H → Nat
  | (.string bytes, d) => bytes.length + uptoBulk d + 1
  | (_, d) => uptoBulk d + 1
 end
def uptoSmall : (H : Type) → List (DataW H) → Bool := fun _ ds => decide (uptoBulkAll ds ≤ 1048576)
def OpenSpec.upto (s : _root_.Go.ChangeSpec) : _root_.Go.OpenSpec := { _root_.Go.OpenSpec.ofChange s with cond := some uptoSmall }

/-- 'laws.FnExactWeightOf', WHERE WHAT IT READS IS OF BULK AT MOST 1048576: true; the input reads as it did. -/
def fnExactWeightOfUptoRow : OpenClaim := { program := "ythmolcmgfhjegaa", sum := "f7cae827ff055a5323028cf0051a32817d073cc7d2bf351913c77ee462713406", func := "loop.example/dataflow/laws.FnExactWeightOf", spec := "fnExactWeightOf", apart := false, narrowed := true }
def FnExactWeightOfUptoSaid : Prop := fnExactWeightOfUptoRow.holds Try.pinned (OpenSpec.upto fnExactWeightOfSpec)

/-- 'laws.FnExactDistinct', WHERE WHAT IT READS IS OF BULK AT MOST 1048576: true; the input reads as it did. -/
def fnExactDistinctUptoRow : OpenClaim := { program := "ythmolcmgfhjegaa", sum := "f7cae827ff055a5323028cf0051a32817d073cc7d2bf351913c77ee462713406", func := "loop.example/dataflow/laws.FnExactDistinct", spec := "fnExactDistinct", apart := false, narrowed := true }
def FnExactDistinctUptoSaid : Prop := fnExactDistinctUptoRow.holds Try.pinned (OpenSpec.upto fnExactDistinctSpec)

/-- 'laws.FnExactNegate', WHERE WHAT IT READS IS OF BULK AT MOST 1048576: true; the input reads as it did. -/
def fnExactNegateUptoRow : OpenClaim := { program := "ythmolcmgfhjegaa", sum := "f7cae827ff055a5323028cf0051a32817d073cc7d2bf351913c77ee462713406", func := "loop.example/dataflow/laws.FnExactNegate", spec := "fnExactNegate", apart := false, narrowed := true }
def FnExactNegateUptoSaid : Prop := fnExactNegateUptoRow.holds Try.pinned (OpenSpec.upto fnExactNegateSpec)

/-- 'laws.FnNegate', WHERE WHAT IT READS IS OF BULK AT MOST 1048576: true; the input reads as it did. -/
def fnNegateUptoRow : OpenClaim := { program := "ythmolcmgfhjegaa", sum := "f7cae827ff055a5323028cf0051a32817d073cc7d2bf351913c77ee462713406", func := "loop.example/dataflow/laws.FnNegate", spec := "fnNegate", apart := false, narrowed := true }
def FnNegateUptoSaid : Prop := fnNegateUptoRow.holds Try.pinned (OpenSpec.upto fnNegateSpec)

/-- 'laws.FnDistinct', WHERE WHAT IT READS IS OF BULK AT MOST 1048576: true; the input reads as it did. -/
def fnDistinctUptoRow : OpenClaim := { program := "ythmolcmgfhjegaa", sum := "f7cae827ff055a5323028cf0051a32817d073cc7d2bf351913c77ee462713406", func := "loop.example/dataflow/laws.FnDistinct", spec := "fnDistinct", apart := false, narrowed := true }
def FnDistinctUptoSaid : Prop := fnDistinctUptoRow.holds Try.pinned (OpenSpec.upto fnDistinctSpec)

/-- 'laws.FnExactFilter', WHERE WHAT IT READS IS OF BULK AT MOST 1048576: true; the input reads as it did. -/
def fnExactFilterUptoRow : OpenClaim := { program := "ythmolcmgfhjegaa", sum := "f7cae827ff055a5323028cf0051a32817d073cc7d2bf351913c77ee462713406", func := "loop.example/dataflow/laws.FnExactFilter", spec := "fnExactFilter", unfollowed := true, recurses := true, apart := false, narrowed := true }
def FnExactFilterUptoSaid : Prop := fnExactFilterUptoRow.holds Try.pinned (OpenSpec.upto fnExactFilterSpec)

/-- 'laws.FnFilter', WHERE WHAT IT READS IS OF BULK AT MOST 1048576: true; the input reads as it did. -/
def fnFilterUptoRow : OpenClaim := { program := "ythmolcmgfhjegaa", sum := "f7cae827ff055a5323028cf0051a32817d073cc7d2bf351913c77ee462713406", func := "loop.example/dataflow/laws.FnFilter", spec := "fnFilter", unfollowed := true, recurses := true, apart := false, narrowed := true }
def FnFilterUptoSaid : Prop := fnFilterUptoRow.holds Try.pinned (OpenSpec.upto fnFilterSpec)

/-- 'laws.FnNormalize', WHERE WHAT IT READS IS OF BULK AT MOST 1048576: true; the input reads as it did. -/
def fnNormalizeUptoRow : OpenClaim := { program := "ythmolcmgfhjegaa", sum := "f7cae827ff055a5323028cf0051a32817d073cc7d2bf351913c77ee462713406", func := "loop.example/dataflow/laws.FnNormalize", spec := "fnNormalize", unfollowed := true, recurses := true, apart := false, narrowed := true }
def FnNormalizeUptoSaid : Prop := fnNormalizeUptoRow.holds Try.pinned (OpenSpec.upto fnNormalizeSpec)

/-- 'laws.FnNormalizeOrder', WHERE WHAT IT READS IS OF BULK AT MOST 1048576: true; the input reads as it did. -/
def fnNormalizeOrderUptoRow : OpenClaim := { program := "ythmolcmgfhjegaa", sum := "f7cae827ff055a5323028cf0051a32817d073cc7d2bf351913c77ee462713406", func := "loop.example/dataflow/laws.FnNormalizeOrder", spec := "fnNormalizeOrder", unfollowed := true, recurses := true, apart := false, narrowed := true }
def FnNormalizeOrderUptoSaid : Prop := fnNormalizeOrderUptoRow.holds Try.pinned (OpenSpec.upto fnNormalizeOrderSpec)

/-- 'laws.FnExactNormalize', WHERE WHAT IT READS IS OF BULK AT MOST 1048576: true; the input reads as it did. -/
def fnExactNormalizeUptoRow : OpenClaim := { program := "ythmolcmgfhjegaa", sum := "f7cae827ff055a5323028cf0051a32817d073cc7d2bf351913c77ee462713406", func := "loop.example/dataflow/laws.FnExactNormalize", spec := "fnExactNormalize", unfollowed := true, recurses := true, apart := false, narrowed := true }
def FnExactNormalizeUptoSaid : Prop := fnExactNormalizeUptoRow.holds Try.pinned (OpenSpec.upto fnExactNormalizeSpec)

/-- 'laws.FnExactMapColumns', WHERE WHAT IT READS IS OF BULK AT MOST 1048576: true; the input reads as it did. -/
def fnExactMapColumnsUptoRow : OpenClaim := { program := "ythmolcmgfhjegaa", sum := "f7cae827ff055a5323028cf0051a32817d073cc7d2bf351913c77ee462713406", func := "loop.example/dataflow/laws.FnExactMapColumns", spec := "fnExactMapColumns", unfollowed := true, recurses := true, apart := false, narrowed := true }
def FnExactMapColumnsUptoSaid : Prop := fnExactMapColumnsUptoRow.holds Try.pinned (OpenSpec.upto fnExactMapColumnsSpec)

/-- 'laws.FnMapColumns', WHERE WHAT IT READS IS OF BULK AT MOST 1048576: true; the input reads as it did. -/
def fnMapColumnsUptoRow : OpenClaim := { program := "ythmolcmgfhjegaa", sum := "f7cae827ff055a5323028cf0051a32817d073cc7d2bf351913c77ee462713406", func := "loop.example/dataflow/laws.FnMapColumns", spec := "fnMapColumns", unfollowed := true, recurses := true, apart := false, narrowed := true }
def FnMapColumnsUptoSaid : Prop := fnMapColumnsUptoRow.holds Try.pinned (OpenSpec.upto fnMapColumnsSpec)

/-- 'laws.FnFilterLinear', WHERE WHAT IT READS IS OF BULK AT MOST 1048576: true; the input reads as it did. -/
def fnFilterLinearUptoRow : OpenClaim := { program := "ythmolcmgfhjegaa", sum := "f7cae827ff055a5323028cf0051a32817d073cc7d2bf351913c77ee462713406", func := "loop.example/dataflow/laws.FnFilterLinear", spec := "fnFilterLinear", unfollowed := true, recurses := true, apart := false, narrowed := true }
def FnFilterLinearUptoSaid : Prop := fnFilterLinearUptoRow.holds Try.pinned (OpenSpec.upto fnFilterLinearSpec)

/-- 'laws.FnMapLinear', WHERE WHAT IT READS IS OF BULK AT MOST 1048576: true; the input reads as it did. -/
def fnMapLinearUptoRow : OpenClaim := { program := "ythmolcmgfhjegaa", sum := "f7cae827ff055a5323028cf0051a32817d073cc7d2bf351913c77ee462713406", func := "loop.example/dataflow/laws.FnMapLinear", spec := "fnMapLinear", unfollowed := true, recurses := true, apart := false, narrowed := true }
def FnMapLinearUptoSaid : Prop := fnMapLinearUptoRow.holds Try.pinned (OpenSpec.upto fnMapLinearSpec)

end Rows
end Go.Proofs.Ythmolcmgfhjegaa
