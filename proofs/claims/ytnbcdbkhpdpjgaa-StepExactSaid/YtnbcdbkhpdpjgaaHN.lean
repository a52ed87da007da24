/- Plain laws of StepClashes: the reference's Clash keeps a least list that excludes the step. -/
import Derived.Test.YtnbcdbkhpdpjgaaHM
import Derived.Test.YtnbcdbkhpdpjgaaHQ
import Derived.Test.YtnbcdbkhpdpjgaaH9
import Derived.Test.YtnbcdbkhpdpjgaaQA9
import Derived.Test.YtnbcdbkhpdpjgaaQA6
import Derived.Test.YtnbcdbkhpdpjgaaQA5
namespace Go.Proofs.Ytnbcdbkhpdpjgaa.H
open Go.RowKit Go.Proofs.YtnbcdbkhpdpjgaaW.PrintWords Go.Proofs.YtnbcdbkhpdpjgaaW.PrintLast Go.Proofs.YtnbcdbkhpdpjgaaW.PrintMore
open Go.Proofs.Ytnbcdbkhpdpjgaa.QA
set_option linter.unusedVariables false
set_option linter.unusedSimpArgs false

def Kept (off s : Int) (l : List Int) (m : Nat) (out : List Int) : Prop :=
  (out = [] ∧ ∀ m', 1 ≤ m' → m' < m → excl off s l (maskNums l.length m') = false) ∨
  (out ≠ [] ∧ excl off s l out = true ∧ out.Sublist (numsTo l.length) ∧ ∀ m', 1 ≤ m' → m' < m → excl off s l (maskNums l.length m') = true → out.length ≤ (maskNums l.length m').length)

end Go.Proofs.Ytnbcdbkhpdpjgaa.H
