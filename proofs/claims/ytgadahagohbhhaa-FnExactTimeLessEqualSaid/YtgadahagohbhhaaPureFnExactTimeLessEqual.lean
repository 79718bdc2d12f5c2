/- Proved: the law FnExactTimeLessEqual answers true for all arguments: impl.TimeLessEqual and spec.TimeLessEqual agree. No condition. -/
import Derived.Test.YtgadahagohbhhaaPFnExactTimeLessEqualx1
namespace Go.Proofs.Ytgadahagohbhhaa.Pure
open Go.RowKit Go.Proofs.Ytgadahagohbhhaa.PFnExactTimeLessEqual Go.Proofs.YtgadahagohbhhaaW.PrintWords Go.Proofs.YtgadahagohbhhaaW.PrintLast
set_option linter.unusedVariables false
set_option linter.unusedSimpArgs false
/-- The pure statement of the law FnExactTimeLessEqual. -/
def FnExactTimeLessEqual_pure : Prop := ∀ (a0_0 : Int) (a0_1 : Int) (a1_0 : Int) (a1_1 : Int), (Lit.int .i64 a0_0).wf = true → (Lit.int .i64 a0_1).wf = true → (Lit.int .i64 a1_0).wf = true → (Lit.int .i64 a1_1).wf = true → laws_FnExactTimeLessEqual.f a0_0 a0_1 a1_0 a1_1 = some true
theorem FnExactTimeLessEqual : FnExactTimeLessEqual_pure := by
  intro a b c d _ _ _ _
  simp [laws_FnExactTimeLessEqual.f, laws_toTime.f, spec_TimeLessEqual.f, spec_timeLessEqual.f, impl_TimeLessEqual.f]
  by_cases h1 : a ≤ c <;> simp [h1]
end Go.Proofs.Ytgadahagohbhhaa.Pure
