-- Cut down by shake.py of this session: what the claim does not need is left out of the printed text that the next row names.
-- PRINTED BY print.sh 35421559b90ae4d0a3588c463048766b98c2df88dd9212a6774a882060cdf62d: not written by this session
import Derived.Test.YtnbcdbkhpdpjgaaWInv
import Derived.Test.YtnbcdbkhpdpjgaaWFootNe
namespace Go.Proofs.YtnbcdbkhpdpjgaaW.PrintWords
open Go.RowKit
end Go.Proofs.YtnbcdbkhpdpjgaaW.PrintWords
namespace Go.Proofs.YtnbcdbkhpdpjgaaW.PrintLast
section
variable {ops : Array Oper} {a : Act} {o og : Oper} {g : Nat} {t : Tmp} {u : Bool}
end
end Go.Proofs.YtnbcdbkhpdpjgaaW.PrintLast
