/- Plain laws of StepClashes: step's search finds a least list that excludes; each list of numbers has its mask. -/
import Derived.Test.YtnbcdbkhpdpjgaaHA
import Derived.Test.YtnbcdbkhpdpjgaaHC
namespace Go.Proofs.Ytnbcdbkhpdpjgaa.H
open Go.RowKit Go.Proofs.YtnbcdbkhpdpjgaaW.PrintWords Go.Proofs.YtnbcdbkhpdpjgaaW.PrintLast Go.Proofs.YtnbcdbkhpdpjgaaW.PrintMore
open Go.Proofs.Ytnbcdbkhpdpjgaa.QA
set_option linter.unusedVariables false
set_option linter.unusedSimpArgs false

/-- The numbers of a mask. -/
def maskNums (n m : Nat) : List Int := ((List.range n).filter fun i => m.testBit i).map fun i : Nat => (i : Int)

end Go.Proofs.Ytnbcdbkhpdpjgaa.H
