/- Proved: the law FnExactTimeMeet answers true for all arguments: impl.TimeMeet and spec.TimeMeet agree. No condition. -/
import Derived.Test.YtgadahagohbhhaaPFnExactTimeMeetx2
namespace Go.Proofs.Ytgadahagohbhhaa.Pure
open Go.RowKit Go.Proofs.Ytgadahagohbhhaa.PFnExactTimeMeet Go.Proofs.YtgadahagohbhhaaW.PrintWords Go.Proofs.YtgadahagohbhhaaW.PrintLast
set_option linter.unusedVariables false
set_option linter.unusedSimpArgs false
/-- The pure statement of the law FnExactTimeMeet. -/
def FnExactTimeMeet_pure : Prop := ∀ (a0_0 : Int) (a0_1 : Int) (a1_0 : Int) (a1_1 : Int), (Lit.int .i64 a0_0).wf = true → (Lit.int .i64 a0_1).wf = true → (Lit.int .i64 a1_0).wf = true → (Lit.int .i64 a1_1).wf = true → laws_FnExactTimeMeet.f a0_0 a0_1 a1_0 a1_1 = some true
theorem FnExactTimeMeet : FnExactTimeMeet_pure := by
  intro a b c d _ _ _ _
  simp [laws_FnExactTimeMeet.f, laws_toTime.f, spec_TimeMeet.f, spec_timeMeet.f, impl_TimeMeet.f, laws_eqTime.f]
end Go.Proofs.Ytgadahagohbhhaa.Pure
