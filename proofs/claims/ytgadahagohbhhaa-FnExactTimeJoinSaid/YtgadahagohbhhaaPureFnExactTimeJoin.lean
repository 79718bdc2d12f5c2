/- Proved: the law FnExactTimeJoin answers true for all arguments: impl.TimeJoin and spec.TimeJoin agree. No condition. -/
import Derived.Test.YtgadahagohbhhaaPFnExactTimeJoinx2
namespace Go.Proofs.Ytgadahagohbhhaa.Pure
open Go.RowKit Go.Proofs.Ytgadahagohbhhaa.PFnExactTimeJoin Go.Proofs.YtgadahagohbhhaaW.PrintWords Go.Proofs.YtgadahagohbhhaaW.PrintLast
set_option linter.unusedVariables false
set_option linter.unusedSimpArgs false
/-- The pure statement of the law FnExactTimeJoin. -/
def FnExactTimeJoin_pure : Prop := ∀ (a0_0 : Int) (a0_1 : Int) (a1_0 : Int) (a1_1 : Int), (Lit.int .i64 a0_0).wf = true → (Lit.int .i64 a0_1).wf = true → (Lit.int .i64 a1_0).wf = true → (Lit.int .i64 a1_1).wf = true → laws_FnExactTimeJoin.f a0_0 a0_1 a1_0 a1_1 = some true
theorem FnExactTimeJoin : FnExactTimeJoin_pure := by
  intro a b c d _ _ _ _
  simp [laws_FnExactTimeJoin.f, laws_toTime.f, spec_TimeJoin.f, spec_timeJoin.f, impl_TimeJoin.f, laws_eqTime.f]
end Go.Proofs.Ytgadahagohbhhaa.Pure
