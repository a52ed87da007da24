/- The plain law of StepSheets, whole. -/
import Derived.Test.YtnbcdbkhpdpjgaaQB0
import Derived.Test.YtnbcdbkhpdpjgaaHC
import Derived.Test.YtnbcdbkhpdpjgaaHB
namespace Go.Proofs.Ytnbcdbkhpdpjgaa.H
open Go.RowKit Go.Proofs.YtnbcdbkhpdpjgaaW.PrintWords Go.Proofs.YtnbcdbkhpdpjgaaW.PrintLast Go.Proofs.YtnbcdbkhpdpjgaaW.PrintMore
open Go.Proofs.Ytnbcdbkhpdpjgaa.QA
set_option linter.unusedVariables false
set_option linter.unusedSimpArgs false

theorem stepSheets_pure (s : ByteArray) (a : Int) (l : List (List Int)) : pianolalaw01_StepSheets.f 1000 s a l = some true := by
  have hw : pianolalaw01_works.f = some true := rfl
  have hJ : ∀ b, pianolalaw01_StepSheets.j0 1000 s b a l = some true := by
    intro b
    rw [pianolalaw01_StepSheets.j0]
    cases b
    · rw [if_neg (show ¬ (false = true) from Bool.noConfusion), rname_f s _ (by omega), hw]
      unfold step_Name.f
      rw [Option.bind_some, Option.bind_some, if_pos (by simp)]
      unfold pianolalaw01_given.f
      have hc := rcheck_f a l 999 (by omega)
      obtain ⟨c, e⟩ : ∃ c, step_Check.f a l = some c := ⟨_, rfl⟩
      rw [e] at hc ⊢
      simp only [Option.bind_some, hc, if_true]
    · rw [if_pos rfl, hw]; rfl
  unfold pianolalaw01_StepSheets.f
  rw [large_f a l 1000 (by omega), Option.bind_some, hJ, hJ, ite_self]

end Go.Proofs.Ytnbcdbkhpdpjgaa.H
