/- Plain laws of StepClashes: the reference's Clash keeps a least list that excludes the step. -/
import Derived.Test.YtnbcdbkhpdpjgaaHM
import Derived.Test.YtnbcdbkhpdpjgaaHL
import Derived.Test.YtnbcdbkhpdpjgaaQA5
namespace Go.Proofs.Ytnbcdbkhpdpjgaa.H
open Go.RowKit Go.Proofs.YtnbcdbkhpdpjgaaW.PrintWords Go.Proofs.YtnbcdbkhpdpjgaaW.PrintLast Go.Proofs.YtnbcdbkhpdpjgaaW.PrintMore
open Go.Proofs.Ytnbcdbkhpdpjgaa.QA
set_option linter.unusedVariables false
set_option linter.unusedSimpArgs false

theorem mask_succ (i m : Nat) : maskNums (i + 1) m = maskNums i m ++ (if m.testBit i = true then [(i : Int)] else []) := by
  unfold maskNums
  rw [List.range_succ, List.filter_append, List.map_append]
  by_cases h : m.testBit i = true <;> simp [List.filter_cons, h]

theorem mask_len (i m : Nat) : (maskNums i m).length ≤ i := by
  unfold maskNums
  rw [List.length_map]
  have := List.length_filter_le (fun j => m.testBit j) (List.range i)
  simpa using this

theorem mask_in (n m : Nat) : ∀ x ∈ maskNums n m, 0 ≤ x ∧ x < (n : Int) := fun x hx => numsTo_in n x ((mask_sub n m).subset hx)

theorem mask_ne (n m : Nat) (h1 : 1 ≤ m) (h2 : m < 2 ^ n) : maskNums n m ≠ [] := by
  obtain ⟨i, hi⟩ := Nat.exists_testBit_of_ne_zero (show m ≠ 0 by omega)
  have hlt : i < n := by
    refine Nat.lt_of_not_le fun hle => ?_
    have := Nat.testBit_lt_two_pow (x := m) (i := i) (Nat.lt_of_lt_of_le h2 (Nat.pow_le_pow_right (by decide) hle))
    rw [hi] at this; cases this
  intro e
  have : (i : Int) ∈ maskNums n m := List.mem_map.2 ⟨i, List.mem_filter.2 ⟨List.mem_range.2 hlt, hi⟩, rfl⟩
  rw [e] at this; cases this

def Kept (off s : Int) (l : List Int) (m : Nat) (out : List Int) : Prop :=
  (out = [] ∧ ∀ m', 1 ≤ m' → m' < m → excl off s l (maskNums l.length m') = false) ∨
  (out ≠ [] ∧ excl off s l out = true ∧ out.Sublist (numsTo l.length) ∧ ∀ m', 1 ≤ m' → m' < m → excl off s l (maskNums l.length m') = true → out.length ≤ (maskNums l.length m').length)

end Go.Proofs.Ytnbcdbkhpdpjgaa.H
