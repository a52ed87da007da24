/- The plain law of StepSheets: the reference's Name and Check answer as step's do. -/
import Derived.Test.YtnbcdbkhpdpjgaaQA3
import Derived.Test.YtnbcdbkhpdpjgaaH2
import Derived.Test.YtnbcdbkhpdpjgaaH4
namespace Go.Proofs.Ytnbcdbkhpdpjgaa.H
open Go.RowKit Go.Proofs.YtnbcdbkhpdpjgaaW.PrintWords Go.Proofs.YtnbcdbkhpdpjgaaW.PrintLast Go.Proofs.YtnbcdbkhpdpjgaaW.PrintMore
open Go.Proofs.Ytnbcdbkhpdpjgaa.QA
set_option linter.unusedVariables false
set_option linter.unusedSimpArgs false

/-! large -/
/-! the reference's Check -/
/-! the reference's Name -/
end Go.Proofs.Ytnbcdbkhpdpjgaa.H
