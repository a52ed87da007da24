/- Written by a program of this session (pp.py) over the loaded program: functions as plain Lean, with their contracts. -/
import Derived.Test.YtkocigldchiifaaQA0
import Derived.Test.YtkocigldchiifaaQA4
import Derived.Test.YtkocigldchiifaaXI
namespace Go.Proofs.Ytkocigldchiifaa.H
end Go.Proofs.Ytkocigldchiifaa.H
namespace Go.Proofs.Ytkocigldchiifaa.QA
open Go.RowKit Go.Proofs.Ytkocigldchiifaa.H Go.Proofs.YtkocigldchiifaaW.PrintWords Go.Proofs.YtkocigldchiifaaW.PrintLast Go.Proofs.YtkocigldchiifaaW.PrintMore
attribute [local go_sem] max2_int min2_int max_two min_two max_three min_three max_four min_four   -- for this text's walks alone
set_option linter.unusedVariables false
set_option linter.unusedSimpArgs false

/-! ### pianolaref07_Gap: function 20 -/
def pianolaref07_Gap.f (k : Nat) (l0 : List (S79)) (l1 : List (S79)) : Option (Int × Int) := (pianolaref07_Check.f k l0 l1).bind fun t158 => (if t158 = 0 then ((pianolaref07_rests.f l0 l1).bind fun t159 => (if 0 < (t159.length : Int) then (if 0 < ((rd_L4 t159 0).length : Int) then (some (rd (rd_L4 t159 0) 0, 0)) else (none)) else (none))) else (some (0, t158)))
theorem pianolaref07_Gap.mono : ∀ a0 a1 k, LeO (pianolaref07_Gap.f k a0 a1) (pianolaref07_Gap.f (k + 1) a0 a1) := by
  intro a0 a1 k
  unfold pianolaref07_Gap.f
  repeat' first
      | (with_reducible exact pianolaref07_Check.mono _ _ _)
      | (with_reducible exact LeO.refl _)
      | (with_reducible exact LeO.none _)
      | (with_reducible refine LeO.ite ?_ ?_)
      | (with_reducible refine LeO.bind ?_ (fun _ => ?_))
      | exact pianolaref07_Check.mono _ _ _
      | exact LeO.none _
      | refine LeO.ite ?_ ?_
      | refine LeO.bind ?_ (fun _ => ?_)
end Go.Proofs.Ytkocigldchiifaa.QA
