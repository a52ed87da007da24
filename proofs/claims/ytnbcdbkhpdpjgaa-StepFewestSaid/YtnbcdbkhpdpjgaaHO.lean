/- Plain laws of StepClashes: step's Clash and the reference's have the same length; what step returns is accepted. -/
import Derived.Test.YtnbcdbkhpdpjgaaHN
namespace Go.Proofs.Ytnbcdbkhpdpjgaa.H
open Go.RowKit Go.Proofs.YtnbcdbkhpdpjgaaW.PrintWords Go.Proofs.YtnbcdbkhpdpjgaaW.PrintLast Go.Proofs.YtnbcdbkhpdpjgaaW.PrintMore
open Go.Proofs.Ytnbcdbkhpdpjgaa.QA
set_option linter.unusedVariables false
set_option linter.unusedSimpArgs false

theorem ver_sorted (off s : Int) (l all : List Int) (hl : l.length ≤ 12) : ∀ (r : List Int) (prev : Int), r.Pairwise (· < ·) → (∀ x ∈ r, 0 ≤ x ∧ x < l.length) → (∀ x ∈ r, prev < x) → verFrom off s l all prev r = if allowsB off s (chosenS l all) = true then 14 else 0
  | [], prev, _, _, _ => by rw [verFrom]
  | x :: r, prev, hp, hi, hv => by
    have hx := hi x (by simp)
    have hv' := hv x (by simp)
    have hb : isIn 0 x ((l.length : Int) - 1) = true := by unfold isIn; rw [decide_eq_true hx.1, decide_eq_true (by omega)]; rfl
    rw [verFrom, hb, if_neg (show ¬ (true = false) from Bool.noConfusion), if_neg (by omega)]
    exact ver_sorted off s l all hl r x (List.pairwise_cons.1 hp).2 (fun y hy => hi y (List.mem_cons_of_mem _ hy)) (fun y hy => (List.pairwise_cons.1 hp).1 y hy)

theorem nums_sorted : ∀ n, (numsTo n).Pairwise (· < ·)
  | 0 => by simp [numsTo]
  | n + 1 => by
    rw [numsTo_succ, List.pairwise_append]
    refine ⟨nums_sorted n, by simp, fun x hx y hy => ?_⟩
    rw [List.mem_singleton.1 hy]
    exact (numsTo_in n x hx).2

end Go.Proofs.Ytnbcdbkhpdpjgaa.H
