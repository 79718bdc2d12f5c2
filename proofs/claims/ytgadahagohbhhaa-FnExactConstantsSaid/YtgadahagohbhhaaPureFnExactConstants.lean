/- Proved: the law FnExactConstants answers true: each constant of the program has the reference's value. No condition. -/
import Derived.Test.YtgadahagohbhhaaPFnExactConstantsx1
namespace Go.Proofs.Ytgadahagohbhhaa.Pure
open Go.RowKit Go.Proofs.Ytgadahagohbhhaa.PFnExactConstants Go.Proofs.YtgadahagohbhhaaW.PrintWords Go.Proofs.YtgadahagohbhhaaW.PrintLast
set_option linter.unusedVariables false
set_option linter.unusedSimpArgs false
theorem FnExactConstants : laws_FnExactConstants.Pure := rfl
end Go.Proofs.Ytgadahagohbhhaa.Pure
