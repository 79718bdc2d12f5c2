/-
  No cell of these rows narrows 'for every input' (looked for: loops, veiled, ifaces, maps, wideKeys, modest, calm, conditions, laid).
  DERIVED. THE GIVEN ROWS OF THIS SEAT. 12 by the template 'for every input the law returns true; each argument reads behind the call as it read before'; 0 by the template 'total and deterministic' (their statements: YtbohfeifkkigbaaTotals.lean).
  GIVEN WITH THE SEED: the statements are not yours to turn. If you find one false, say at which input.
  Laid BY PROGRAM, IN A SANDBOX (cutbox-rows.mjs): the forced cells as the released guide's own fill.sh prints them over the translation 0bcbb7366dc23c9d… (all of the seat's roots in one cut). By AI agents, Wed Nov 11 2026. No macro, syntax, notation, axiom, sorry.
-/
import Derived.Test.YtbohfeifkkigbaaChecked
import GoSem.Claim
import GoSem.ClaimJoined
import GoSem.ClaimMapViews
import Derived.JoinedTies
import Derived.KernelRfl
namespace Go.Proofs.Ytbohfeifkkigbaa
/- THE CELL 'sum', in the pinned program and in every row, IS THE sha256 OF THE DUMP (.gsa) THAT YtbohfeifkkigbaaProg.lean LOADS. Nothing in Lean hashes anything: it is a label: what it is worth is what the hold of that sum in a sandbox is worth. -/
noncomputable def Try.pinned : Pinned := { name := "ytbohfeifkkigbaa", sum := "0bcbb7366dc23c9dd6dfa701dfb125dc8498c1005e798a14daf0aa6a146a8193", checked := Try.checked }
namespace Rows
def none {H : Type} : Left H := { results := [], args := [] }

/-- 'laws.FnExactValidFrontier': WHATEVER THE INPUT: true; the input reads as it did. -/
def fnExactValidFrontierSpec : ChangeSpec := { name := "fnExactValidFrontier", fn := fun _ => fun
  | [d] => { results := [.lit (.bool true)], args := [d] }
  | _ => none }
def fnExactValidFrontierRow : OpenClaim := { program := "ytbohfeifkkigbaa", sum := "0bcbb7366dc23c9dd6dfa701dfb125dc8498c1005e798a14daf0aa6a146a8193", func := "loop.example/dataflow/laws.FnExactValidFrontier", spec := "fnExactValidFrontier", apart := false }
def FnExactValidFrontierSaid : Prop := fnExactValidFrontierRow.holds Try.pinned (OpenSpec.ofChange fnExactValidFrontierSpec)

/-- ITS FALSE NEIGHBOUR: 'it returns false'. Refute it at one input. -/
def fnExactValidFrontierWrong : ChangeSpec := { name := "fnExactValidFrontier", fn := fun _ => fun
  | [d] => { results := [.lit (.bool false)], args := [d] }
  | _ => none }
def FnExactValidFrontierWrongFalsely : Prop := fnExactValidFrontierRow.holds Try.pinned (OpenSpec.ofChange fnExactValidFrontierWrong)

/-- 'laws.FnExactProjectRow': WHATEVER THE INPUT: true; the input reads as it did. -/
def fnExactProjectRowSpec : ChangeSpec := { name := "fnExactProjectRow", fn := fun _ => fun
  | [d1, d2] => { results := [.lit (.bool true)], args := [d1, d2] }
  | _ => none }
def fnExactProjectRowRow : OpenClaim := { program := "ytbohfeifkkigbaa", sum := "0bcbb7366dc23c9dd6dfa701dfb125dc8498c1005e798a14daf0aa6a146a8193", func := "loop.example/dataflow/laws.FnExactProjectRow", spec := "fnExactProjectRow", apart := false }
def FnExactProjectRowSaid : Prop := fnExactProjectRowRow.holds Try.pinned (OpenSpec.ofChange fnExactProjectRowSpec)

/-- ITS FALSE NEIGHBOUR: 'it returns false'. Refute it at one input. -/
def fnExactProjectRowWrong : ChangeSpec := { name := "fnExactProjectRow", fn := fun _ => fun
  | [d1, d2] => { results := [.lit (.bool false)], args := [d1, d2] }
  | _ => none }
def FnExactProjectRowWrongFalsely : Prop := fnExactProjectRowRow.holds Try.pinned (OpenSpec.ofChange fnExactProjectRowWrong)

/-- 'laws.FnExactFrontierCovers': WHATEVER THE INPUT: true; the input reads as it did. -/
def fnExactFrontierCoversSpec : ChangeSpec := { name := "fnExactFrontierCovers", fn := fun _ => fun
  | [d1, d2] => { results := [.lit (.bool true)], args := [d1, d2] }
  | _ => none }
def fnExactFrontierCoversRow : OpenClaim := { program := "ytbohfeifkkigbaa", sum := "0bcbb7366dc23c9dd6dfa701dfb125dc8498c1005e798a14daf0aa6a146a8193", func := "loop.example/dataflow/laws.FnExactFrontierCovers", spec := "fnExactFrontierCovers", apart := false }
def FnExactFrontierCoversSaid : Prop := fnExactFrontierCoversRow.holds Try.pinned (OpenSpec.ofChange fnExactFrontierCoversSpec)

/-- ITS FALSE NEIGHBOUR: 'it returns false'. Refute it at one input. -/
def fnExactFrontierCoversWrong : ChangeSpec := { name := "fnExactFrontierCovers", fn := fun _ => fun
  | [d1, d2] => { results := [.lit (.bool false)], args := [d1, d2] }
  | _ => none }
def FnExactFrontierCoversWrongFalsely : Prop := fnExactFrontierCoversRow.holds Try.pinned (OpenSpec.ofChange fnExactFrontierCoversWrong)

/-- 'laws.FnRowOrder': WHATEVER THE INPUT: true; the input reads as it did. -/
def fnRowOrderSpec : ChangeSpec := { name := "fnRowOrder", fn := fun _ => fun
  | [d] => { results := [.lit (.bool true)], args := [d] }
  | _ => none }
def fnRowOrderRow : OpenClaim := { program := "ytbohfeifkkigbaa", sum := "0bcbb7366dc23c9dd6dfa701dfb125dc8498c1005e798a14daf0aa6a146a8193", func := "loop.example/dataflow/laws.FnRowOrder", spec := "fnRowOrder", apart := false }
def FnRowOrderSaid : Prop := fnRowOrderRow.holds Try.pinned (OpenSpec.ofChange fnRowOrderSpec)

/-- ITS FALSE NEIGHBOUR: 'it returns false'. Refute it at one input. -/
def fnRowOrderWrong : ChangeSpec := { name := "fnRowOrder", fn := fun _ => fun
  | [d] => { results := [.lit (.bool false)], args := [d] }
  | _ => none }
def FnRowOrderWrongFalsely : Prop := fnRowOrderRow.holds Try.pinned (OpenSpec.ofChange fnRowOrderWrong)

/-- 'laws.FnExactFrontierLessEqual': WHATEVER THE INPUT: true; the input reads as it did. -/
def fnExactFrontierLessEqualSpec : ChangeSpec := { name := "fnExactFrontierLessEqual", fn := fun _ => fun
  | [d1, d2] => { results := [.lit (.bool true)], args := [d1, d2] }
  | _ => none }
def fnExactFrontierLessEqualRow : OpenClaim := { program := "ytbohfeifkkigbaa", sum := "0bcbb7366dc23c9dd6dfa701dfb125dc8498c1005e798a14daf0aa6a146a8193", func := "loop.example/dataflow/laws.FnExactFrontierLessEqual", spec := "fnExactFrontierLessEqual", apart := false }
def FnExactFrontierLessEqualSaid : Prop := fnExactFrontierLessEqualRow.holds Try.pinned (OpenSpec.ofChange fnExactFrontierLessEqualSpec)

/-- ITS FALSE NEIGHBOUR: 'it returns false'. Refute it at one input. -/
def fnExactFrontierLessEqualWrong : ChangeSpec := { name := "fnExactFrontierLessEqual", fn := fun _ => fun
  | [d1, d2] => { results := [.lit (.bool false)], args := [d1, d2] }
  | _ => none }
def FnExactFrontierLessEqualWrongFalsely : Prop := fnExactFrontierLessEqualRow.holds Try.pinned (OpenSpec.ofChange fnExactFrontierLessEqualWrong)

/-- 'laws.FnExactAdvanceTime': WHATEVER THE INPUT: true; the input reads as it did. -/
def fnExactAdvanceTimeSpec : ChangeSpec := { name := "fnExactAdvanceTime", fn := fun _ => fun
  | [d1, d2] => { results := [.lit (.bool true)], args := [d1, d2] }
  | _ => none }
def fnExactAdvanceTimeRow : OpenClaim := { program := "ytbohfeifkkigbaa", sum := "0bcbb7366dc23c9dd6dfa701dfb125dc8498c1005e798a14daf0aa6a146a8193", func := "loop.example/dataflow/laws.FnExactAdvanceTime", spec := "fnExactAdvanceTime", apart := false }
def FnExactAdvanceTimeSaid : Prop := fnExactAdvanceTimeRow.holds Try.pinned (OpenSpec.ofChange fnExactAdvanceTimeSpec)

/-- ITS FALSE NEIGHBOUR: 'it returns false'. Refute it at one input. -/
def fnExactAdvanceTimeWrong : ChangeSpec := { name := "fnExactAdvanceTime", fn := fun _ => fun
  | [d1, d2] => { results := [.lit (.bool false)], args := [d1, d2] }
  | _ => none }
def FnExactAdvanceTimeWrongFalsely : Prop := fnExactAdvanceTimeRow.holds Try.pinned (OpenSpec.ofChange fnExactAdvanceTimeWrong)

/-- 'laws.FnProjectRow': WHATEVER THE INPUT: true; the input reads as it did. -/
def fnProjectRowSpec : ChangeSpec := { name := "fnProjectRow", fn := fun _ => fun
  | [d] => { results := [.lit (.bool true)], args := [d] }
  | _ => none }
def fnProjectRowRow : OpenClaim := { program := "ytbohfeifkkigbaa", sum := "0bcbb7366dc23c9dd6dfa701dfb125dc8498c1005e798a14daf0aa6a146a8193", func := "loop.example/dataflow/laws.FnProjectRow", spec := "fnProjectRow", apart := false }
def FnProjectRowSaid : Prop := fnProjectRowRow.holds Try.pinned (OpenSpec.ofChange fnProjectRowSpec)

/-- ITS FALSE NEIGHBOUR: 'it returns false'. Refute it at one input. -/
def fnProjectRowWrong : ChangeSpec := { name := "fnProjectRow", fn := fun _ => fun
  | [d] => { results := [.lit (.bool false)], args := [d] }
  | _ => none }
def FnProjectRowWrongFalsely : Prop := fnProjectRowRow.holds Try.pinned (OpenSpec.ofChange fnProjectRowWrong)

/-- 'laws.FnFrontierOrder': WHATEVER THE INPUT: true; the input reads as it did. -/
def fnFrontierOrderSpec : ChangeSpec := { name := "fnFrontierOrder", fn := fun _ => fun
  | [d1, d2] => { results := [.lit (.bool true)], args := [d1, d2] }
  | _ => none }
def fnFrontierOrderRow : OpenClaim := { program := "ytbohfeifkkigbaa", sum := "0bcbb7366dc23c9dd6dfa701dfb125dc8498c1005e798a14daf0aa6a146a8193", func := "loop.example/dataflow/laws.FnFrontierOrder", spec := "fnFrontierOrder", apart := false }
def FnFrontierOrderSaid : Prop := fnFrontierOrderRow.holds Try.pinned (OpenSpec.ofChange fnFrontierOrderSpec)

/-- ITS FALSE NEIGHBOUR: 'it returns false'. Refute it at one input. -/
def fnFrontierOrderWrong : ChangeSpec := { name := "fnFrontierOrder", fn := fun _ => fun
  | [d1, d2] => { results := [.lit (.bool false)], args := [d1, d2] }
  | _ => none }
def FnFrontierOrderWrongFalsely : Prop := fnFrontierOrderRow.holds Try.pinned (OpenSpec.ofChange fnFrontierOrderWrong)

/-- 'laws.FnAdvanceTime': WHATEVER THE INPUT: true; the input reads as it did. -/
def fnAdvanceTimeSpec : ChangeSpec := { name := "fnAdvanceTime", fn := fun _ => fun
  | [d1, d2] => { results := [.lit (.bool true)], args := [d1, d2] }
  | _ => none }
def fnAdvanceTimeRow : OpenClaim := { program := "ytbohfeifkkigbaa", sum := "0bcbb7366dc23c9dd6dfa701dfb125dc8498c1005e798a14daf0aa6a146a8193", func := "loop.example/dataflow/laws.FnAdvanceTime", spec := "fnAdvanceTime", apart := false }
def FnAdvanceTimeSaid : Prop := fnAdvanceTimeRow.holds Try.pinned (OpenSpec.ofChange fnAdvanceTimeSpec)

/-- ITS FALSE NEIGHBOUR: 'it returns false'. Refute it at one input. -/
def fnAdvanceTimeWrong : ChangeSpec := { name := "fnAdvanceTime", fn := fun _ => fun
  | [d1, d2] => { results := [.lit (.bool false)], args := [d1, d2] }
  | _ => none }
def FnAdvanceTimeWrongFalsely : Prop := fnAdvanceTimeRow.holds Try.pinned (OpenSpec.ofChange fnAdvanceTimeWrong)

/-- 'laws.FnExactValidZSet': WHATEVER THE INPUT: true; the input reads as it did. -/
def fnExactValidZSetSpec : ChangeSpec := { name := "fnExactValidZSet", fn := fun _ => fun
  | [d] => { results := [.lit (.bool true)], args := [d] }
  | _ => none }
def fnExactValidZSetRow : OpenClaim := { program := "ytbohfeifkkigbaa", sum := "0bcbb7366dc23c9dd6dfa701dfb125dc8498c1005e798a14daf0aa6a146a8193", func := "loop.example/dataflow/laws.FnExactValidZSet", spec := "fnExactValidZSet", apart := false }
def FnExactValidZSetSaid : Prop := fnExactValidZSetRow.holds Try.pinned (OpenSpec.ofChange fnExactValidZSetSpec)

/-- ITS FALSE NEIGHBOUR: 'it returns false'. Refute it at one input. -/
def fnExactValidZSetWrong : ChangeSpec := { name := "fnExactValidZSet", fn := fun _ => fun
  | [d] => { results := [.lit (.bool false)], args := [d] }
  | _ => none }
def FnExactValidZSetWrongFalsely : Prop := fnExactValidZSetRow.holds Try.pinned (OpenSpec.ofChange fnExactValidZSetWrong)

/-- 'laws.FnExactIsSet': WHATEVER THE INPUT: true; the input reads as it did. -/
def fnExactIsSetSpec : ChangeSpec := { name := "fnExactIsSet", fn := fun _ => fun
  | [d] => { results := [.lit (.bool true)], args := [d] }
  | _ => none }
def fnExactIsSetRow : OpenClaim := { program := "ytbohfeifkkigbaa", sum := "0bcbb7366dc23c9dd6dfa701dfb125dc8498c1005e798a14daf0aa6a146a8193", func := "loop.example/dataflow/laws.FnExactIsSet", spec := "fnExactIsSet", apart := false }
def FnExactIsSetSaid : Prop := fnExactIsSetRow.holds Try.pinned (OpenSpec.ofChange fnExactIsSetSpec)

/-- ITS FALSE NEIGHBOUR: 'it returns false'. Refute it at one input. -/
def fnExactIsSetWrong : ChangeSpec := { name := "fnExactIsSet", fn := fun _ => fun
  | [d] => { results := [.lit (.bool false)], args := [d] }
  | _ => none }
def FnExactIsSetWrongFalsely : Prop := fnExactIsSetRow.holds Try.pinned (OpenSpec.ofChange fnExactIsSetWrong)

/-- 'laws.FnExactTotalWeight': WHATEVER THE INPUT: true; the input reads as it did. -/
def fnExactTotalWeightSpec : ChangeSpec := { name := "fnExactTotalWeight", fn := fun _ => fun
  | [d] => { results := [.lit (.bool true)], args := [d] }
  | _ => none }
def fnExactTotalWeightRow : OpenClaim := { program := "ytbohfeifkkigbaa", sum := "0bcbb7366dc23c9dd6dfa701dfb125dc8498c1005e798a14daf0aa6a146a8193", func := "loop.example/dataflow/laws.FnExactTotalWeight", spec := "fnExactTotalWeight", apart := false }
def FnExactTotalWeightSaid : Prop := fnExactTotalWeightRow.holds Try.pinned (OpenSpec.ofChange fnExactTotalWeightSpec)

/-- ITS FALSE NEIGHBOUR: 'it returns false'. Refute it at one input. -/
def fnExactTotalWeightWrong : ChangeSpec := { name := "fnExactTotalWeight", fn := fun _ => fun
  | [d] => { results := [.lit (.bool false)], args := [d] }
  | _ => none }
def FnExactTotalWeightWrongFalsely : Prop := fnExactTotalWeightRow.holds Try.pinned (OpenSpec.ofChange fnExactTotalWeightWrong)

/- THE SECOND FORM. 'bulk': how many values and letters a reading holds, each counted each time it is reached (what is shared counts as often as it is met; a slice's spare places count too). A statement '..UptoSaid' is the law's where the arguments, and the package variables that the reading takes, are together of bulk at most 1048576: NARROWER than '..Said'. Prove '..Said' where nothing that the law and all that it calls make is longer than what came in: it says more and counts as full. Else prove '..UptoSaid'. A law counts once. -/
mutual
def uptoBulk {H : Type} : DataW H → Nat
  | .lit (.string bytes) => bytes.length + 1
  | .lit _ => 1
  | .nil => 1
  | .ptr d => uptoBulk d + 1
  | .slice elems spare => uptoBulkAll elems + uptoBulkAll spare + 1
  | .agg parts => uptoBulkAll parts + 1
  | .iface _ d => uptoBulk d + 1
  | .map entries => uptoBulkEntries entries + 1
  | .held _ => 1
def uptoBulkAll {H : Type} : List (DataW H) → Nat
  | [] => 0
  | d :: r => uptoBulk d + uptoBulkAll r
def uptoBulkEntries {H : Type} : List (Lit × DataW H) → Nat
  | [] => 0
  | x :: r => uptoBulkEntry x + uptoBulkEntries r
def uptoBulkEntry {H : Type} : Lit × DataW H → Nat
  | (.string bytes, d) => bytes.length + uptoBulk d + 1
  | (_, d) => uptoBulk d + 1
 end
def uptoSmall : (H : Type) → List (DataW H) → Bool := fun _ ds => decide (uptoBulkAll ds ≤ 1048576)
def OpenSpec.upto (s : _root_.Go.ChangeSpec) : _root_.Go.OpenSpec := { _root_.Go.OpenSpec.ofChange s with cond := some uptoSmall }

/-- 'laws.FnExactValidFrontier', WHERE WHAT IT READS IS OF BULK AT MOST 1048576: true; the input reads as it did. -/
def fnExactValidFrontierUptoRow : OpenClaim := { program := "ytbohfeifkkigbaa", sum := "0bcbb7366dc23c9dd6dfa701dfb125dc8498c1005e798a14daf0aa6a146a8193", func := "loop.example/dataflow/laws.FnExactValidFrontier", spec := "fnExactValidFrontier", apart := false, narrowed := true }
def FnExactValidFrontierUptoSaid : Prop := fnExactValidFrontierUptoRow.holds Try.pinned (OpenSpec.upto fnExactValidFrontierSpec)

/-- 'laws.FnExactProjectRow', WHERE WHAT IT READS IS OF BULK AT MOST 1048576: true; the input reads as it did. -/
def fnExactProjectRowUptoRow : OpenClaim := { program := "ytbohfeifkkigbaa", sum := "0bcbb7366dc23c9dd6dfa701dfb125dc8498c1005e798a14daf0aa6a146a8193", func := "loop.example/dataflow/laws.FnExactProjectRow", spec := "fnExactProjectRow", apart := false, narrowed := true }
def FnExactProjectRowUptoSaid : Prop := fnExactProjectRowUptoRow.holds Try.pinned (OpenSpec.upto fnExactProjectRowSpec)

/-- 'laws.FnExactFrontierCovers', WHERE WHAT IT READS IS OF BULK AT MOST 1048576: true; the input reads as it did. -/
def fnExactFrontierCoversUptoRow : OpenClaim := { program := "ytbohfeifkkigbaa", sum := "0bcbb7366dc23c9dd6dfa701dfb125dc8498c1005e798a14daf0aa6a146a8193", func := "loop.example/dataflow/laws.FnExactFrontierCovers", spec := "fnExactFrontierCovers", apart := false, narrowed := true }
def FnExactFrontierCoversUptoSaid : Prop := fnExactFrontierCoversUptoRow.holds Try.pinned (OpenSpec.upto fnExactFrontierCoversSpec)

/-- 'laws.FnRowOrder', WHERE WHAT IT READS IS OF BULK AT MOST 1048576: true; the input reads as it did. -/
def fnRowOrderUptoRow : OpenClaim := { program := "ytbohfeifkkigbaa", sum := "0bcbb7366dc23c9dd6dfa701dfb125dc8498c1005e798a14daf0aa6a146a8193", func := "loop.example/dataflow/laws.FnRowOrder", spec := "fnRowOrder", apart := false, narrowed := true }
def FnRowOrderUptoSaid : Prop := fnRowOrderUptoRow.holds Try.pinned (OpenSpec.upto fnRowOrderSpec)

/-- 'laws.FnExactFrontierLessEqual', WHERE WHAT IT READS IS OF BULK AT MOST 1048576: true; the input reads as it did. -/
def fnExactFrontierLessEqualUptoRow : OpenClaim := { program := "ytbohfeifkkigbaa", sum := "0bcbb7366dc23c9dd6dfa701dfb125dc8498c1005e798a14daf0aa6a146a8193", func := "loop.example/dataflow/laws.FnExactFrontierLessEqual", spec := "fnExactFrontierLessEqual", apart := false, narrowed := true }
def FnExactFrontierLessEqualUptoSaid : Prop := fnExactFrontierLessEqualUptoRow.holds Try.pinned (OpenSpec.upto fnExactFrontierLessEqualSpec)

/-- 'laws.FnExactAdvanceTime', WHERE WHAT IT READS IS OF BULK AT MOST 1048576: true; the input reads as it did. -/
def fnExactAdvanceTimeUptoRow : OpenClaim := { program := "ytbohfeifkkigbaa", sum := "0bcbb7366dc23c9dd6dfa701dfb125dc8498c1005e798a14daf0aa6a146a8193", func := "loop.example/dataflow/laws.FnExactAdvanceTime", spec := "fnExactAdvanceTime", apart := false, narrowed := true }
def FnExactAdvanceTimeUptoSaid : Prop := fnExactAdvanceTimeUptoRow.holds Try.pinned (OpenSpec.upto fnExactAdvanceTimeSpec)

/-- 'laws.FnProjectRow', WHERE WHAT IT READS IS OF BULK AT MOST 1048576: true; the input reads as it did. -/
def fnProjectRowUptoRow : OpenClaim := { program := "ytbohfeifkkigbaa", sum := "0bcbb7366dc23c9dd6dfa701dfb125dc8498c1005e798a14daf0aa6a146a8193", func := "loop.example/dataflow/laws.FnProjectRow", spec := "fnProjectRow", apart := false, narrowed := true }
def FnProjectRowUptoSaid : Prop := fnProjectRowUptoRow.holds Try.pinned (OpenSpec.upto fnProjectRowSpec)

/-- 'laws.FnFrontierOrder', WHERE WHAT IT READS IS OF BULK AT MOST 1048576: true; the input reads as it did. -/
def fnFrontierOrderUptoRow : OpenClaim := { program := "ytbohfeifkkigbaa", sum := "0bcbb7366dc23c9dd6dfa701dfb125dc8498c1005e798a14daf0aa6a146a8193", func := "loop.example/dataflow/laws.FnFrontierOrder", spec := "fnFrontierOrder", apart := false, narrowed := true }
def FnFrontierOrderUptoSaid : Prop := fnFrontierOrderUptoRow.holds Try.pinned (OpenSpec.upto fnFrontierOrderSpec)

/-- 'laws.FnAdvanceTime', WHERE WHAT IT READS IS OF BULK AT MOST 1048576: true; the input reads as it did. -/
def fnAdvanceTimeUptoRow : OpenClaim := { program := "ytbohfeifkkigbaa", sum := "0bcbb7366dc23c9dd6dfa701dfb125dc8498c1005e798a14daf0aa6a146a8193", func := "loop.example/dataflow/laws.FnAdvanceTime", spec := "fnAdvanceTime", apart := false, narrowed := true }
def FnAdvanceTimeUptoSaid : Prop := fnAdvanceTimeUptoRow.holds Try.pinned (OpenSpec.upto fnAdvanceTimeSpec)

/-- 'laws.FnExactValidZSet', WHERE WHAT IT READS IS OF BULK AT MOST 1048576: true; the input reads as it did. -/
def fnExactValidZSetUptoRow : OpenClaim := { program := "ytbohfeifkkigbaa", sum := "0bcbb7366dc23c9dd6dfa701dfb125dc8498c1005e798a14daf0aa6a146a8193", func := "loop.example/dataflow/laws.FnExactValidZSet", spec := "fnExactValidZSet", apart := false, narrowed := true }
def FnExactValidZSetUptoSaid : Prop := fnExactValidZSetUptoRow.holds Try.pinned (OpenSpec.upto fnExactValidZSetSpec)

/-- 'laws.FnExactIsSet', WHERE WHAT IT READS IS OF BULK AT MOST 1048576: true; the input reads as it did. -/
def fnExactIsSetUptoRow : OpenClaim := { program := "ytbohfeifkkigbaa", sum := "0bcbb7366dc23c9dd6dfa701dfb125dc8498c1005e798a14daf0aa6a146a8193", func := "loop.example/dataflow/laws.FnExactIsSet", spec := "fnExactIsSet", apart := false, narrowed := true }
def FnExactIsSetUptoSaid : Prop := fnExactIsSetUptoRow.holds Try.pinned (OpenSpec.upto fnExactIsSetSpec)

/-- 'laws.FnExactTotalWeight', WHERE WHAT IT READS IS OF BULK AT MOST 1048576: true; the input reads as it did. -/
def fnExactTotalWeightUptoRow : OpenClaim := { program := "ytbohfeifkkigbaa", sum := "0bcbb7366dc23c9dd6dfa701dfb125dc8498c1005e798a14daf0aa6a146a8193", func := "loop.example/dataflow/laws.FnExactTotalWeight", spec := "fnExactTotalWeight", apart := false, narrowed := true }
def FnExactTotalWeightUptoSaid : Prop := fnExactTotalWeightUptoRow.holds Try.pinned (OpenSpec.upto fnExactTotalWeightSpec)

end Rows
end Go.Proofs.Ytbohfeifkkigbaa
