/- The walk of given; a span by value, opened; a list of numbers, opened. -/
import Derived.Test.YtnbcdbkhpdpjgaaQA3
import Derived.Test.YtnbcdbkhpdpjgaaH7
import Derived.Test.YtnbcdbkhpdpjgaaHE
namespace Go.Proofs.Ytnbcdbkhpdpjgaa.H
open Go.RowKit Go.Proofs.YtnbcdbkhpdpjgaaW.PrintWords Go.Proofs.YtnbcdbkhpdpjgaaW.PrintLast Go.Proofs.YtnbcdbkhpdpjgaaW.PrintMore
open Go.Shelf Go.Proofs.Ytnbcdbkhpdpjgaa.QA
open Go.ChangeShapes Go.WideShapes Go.Joins
set_option linter.unusedVariables false
set_option linter.unusedSimpArgs false

/-- given hands on a sheet that reads the same. -/
theorem given_calls' (a : Int) (A : Option Addr) (c : Nat) (l : List (List Int)) (w : World) (hr : Kd.C (Kd.slice 3 (Kd.int .i64)) w A l.length l) (hc : l.length ≤ c) :
    Calls Try.prog 20 #[.agg #[.int .i64 a, .slice A l.length c]] w fun e w' => ∃ A' c', e = .returned (.agg #[.int .i64 a, .slice A' l.length c']) ∧ l.length ≤ c' ∧ Kd.C (Kd.slice 3 (Kd.int .i64)) w' A' l.length l ∧ Below w.heap.size w w' := by
  refine (pianolalaw01_given.calls a (fun k => k < w.heap.size) A c l a l w (V_of_C hr hc (Below.refl _ _)) rfl).mono ?_
  rintro e w' ⟨v, rfl, hV, hb⟩
  obtain ⟨A', c', rfl, hc', hF⟩ := hV
  exact ⟨A', c', rfl, hc', Kd.F_now hF, hb⟩

end Go.Proofs.Ytnbcdbkhpdpjgaa.H
