/- Proved: the law FnExactTimeBefore answers true for all arguments: impl.TimeBefore and spec.TimeBefore agree. No condition. -/
import Derived.Test.YtgadahagohbhhaaPFnExactTimeBeforex1
namespace Go.Proofs.Ytgadahagohbhhaa.Pure
open Go.RowKit Go.Proofs.Ytgadahagohbhhaa.PFnExactTimeBefore Go.Proofs.YtgadahagohbhhaaW.PrintWords Go.Proofs.YtgadahagohbhhaaW.PrintLast
set_option linter.unusedVariables false
set_option linter.unusedSimpArgs false
/-- The pure statement of the law FnExactTimeBefore. -/
def FnExactTimeBefore_pure : Prop := ∀ (a0_0 : Int) (a0_1 : Int) (a1_0 : Int) (a1_1 : Int), (Lit.int .i64 a0_0).wf = true → (Lit.int .i64 a0_1).wf = true → (Lit.int .i64 a1_0).wf = true → (Lit.int .i64 a1_1).wf = true → laws_FnExactTimeBefore.f a0_0 a0_1 a1_0 a1_1 = some true
theorem FnExactTimeBefore : FnExactTimeBefore_pure := by
  intro a b c d _ _ _ _
  simp [laws_FnExactTimeBefore.f, laws_toTime.f, spec_TimeBefore.f, spec_timeBefore.f, impl_TimeBefore.f]
  by_cases h1 : a < c <;> by_cases h2 : a = c <;> simp [h1, h2]
end Go.Proofs.Ytgadahagohbhhaa.Pure
