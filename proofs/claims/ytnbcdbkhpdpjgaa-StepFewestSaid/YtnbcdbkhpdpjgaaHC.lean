/- The plain law of StepSheets: the reference's Name and Check answer as step's do. -/
import Derived.Test.YtnbcdbkhpdpjgaaQA3
import Derived.Test.YtnbcdbkhpdpjgaaH2
import Derived.Test.YtnbcdbkhpdpjgaaH4
namespace Go.Proofs.Ytnbcdbkhpdpjgaa.H
open Go.RowKit Go.Proofs.YtnbcdbkhpdpjgaaW.PrintWords Go.Proofs.YtnbcdbkhpdpjgaaW.PrintLast Go.Proofs.YtnbcdbkhpdpjgaaW.PrintMore
open Go.Proofs.Ytnbcdbkhpdpjgaa.QA
set_option linter.unusedVariables false
set_option linter.unusedSimpArgs false

theorem next64 (i n : Nat) (h : i < n) (hn : n ≤ 9223372036854775807) : wrap64 ((i : Int) + 1) = ((i + 1 : Nat) : Int) := by
  rw [w64 _ (by omega) (by omega)]; omega

theorem is_f (a x b : Int) : pianolaref01_Is.f x a b = some (isIn a x b) := by
  unfold pianolaref01_Is.f isIn
  by_cases h : a ≤ x <;> simp [h]

theorem rd_nat (l : List Int) (i : Nat) (h : i < l.length) : rd l (i : Int) = l[i] := by
  unfold rd; rw [Int.toNat_natCast, List.getD_eq_getElem?_getD, List.getElem?_eq_getElem h]; rfl

/-! large -/
/-! the reference's Check -/
theorem rcheck1 (a : Int) (l : List (List Int)) (i : Nat) (hi : i < l.length) (hl : l.length ≤ 6) (h12 : (rd_L1 l (i : Int)).length ≤ 12) : ∀ m (j : Nat), (rd_L1 l (i : Int)).length = j + m → ∀ k,
    pianolaref01_Check.l1 (k + m + 1) (i : Int) (j : Int) a l = if ((rd_L1 l (i : Int)).drop j).any (fun p => !isIn 0 p 1000000) = true then some 3 else pianolaref01_Check.l0 k ((i + 1 : Nat) : Int) a l
  | 0, j, hj, k => by
    rw [pianolaref01_Check.l1, if_pos (by omega), if_pos (by omega), if_neg (by omega), List.drop_eq_nil_of_le (by omega), next64 i l.length hi (by omega)]
    rfl
  | m + 1, j, hj, k => by
    have hlt : j < (rd_L1 l (i : Int)).length := by omega
    have ih := rcheck1 a l i hi hl h12 m (j + 1) (by omega) k
    rw [show k + (m + 1) + 1 = (k + m + 1) + 1 from rfl, pianolaref01_Check.l1, if_pos (by omega), if_pos (by omega), if_pos (by omega), if_pos (by omega), is_f, Option.bind_some, List.drop_eq_getElem_cons hlt, List.any_cons, rd_nat _ _ hlt, next64 j _ hlt (by omega), ih]
    cases isIn 0 (rd_L1 l (i : Int))[j] 1000000
    · rfl
    · rfl

theorem rcheck0 (a : Int) (l : List (List Int)) (hl : l.length ≤ 6) : ∀ n (i : Nat), l.length = i + n → ∀ k, 20 * n + 1 ≤ k →
    pianolaref01_Check.l0 k (i : Int) a l = some (chkRows (l.drop i))
  | 0, i, hi, k + 1, hk => by
    rw [pianolaref01_Check.l0, if_neg (by omega), List.drop_eq_nil_of_le (by omega)]; rfl
  | n + 1, i, hi, k + 1, hk => by
    have hlt : i < l.length := by omega
    rw [pianolaref01_Check.l0, if_pos (by omega), if_pos (by omega), chk_drop l i hlt]
    by_cases h0 : (rd_L1 l (i : Int)).length = 0
    · rw [if_pos (by omega), if_pos h0]
    · rw [if_neg (by omega), if_neg h0]
      by_cases h12 : 12 < (rd_L1 l (i : Int)).length
      · rw [if_pos (by omega), if_pos h12]
      · rw [if_neg (by omega), if_neg h12]
        obtain ⟨k', rfl⟩ : ∃ k', k = k' + (rd_L1 l (i : Int)).length + 1 := ⟨k - (rd_L1 l (i : Int)).length - 1, by omega⟩
        have := rcheck1 a l i hlt hl (by omega) (rd_L1 l (i : Int)).length 0 (by omega) k'
        rw [List.drop_zero] at this
        rw [show ((0 : Nat) : Int) = 0 from rfl] at this
        rw [this, rcheck0 a l hl n (i + 1) (by omega) k' (by omega)]
        cases (rd_L1 l (i : Int)).any (fun p => !isIn 0 p 1000000) <;> rfl

theorem rcheck_f (a : Int) (l : List (List Int)) (k : Nat) (hk : 200 ≤ k) : pianolaref01_Check.f k a l = step_Check.f a l := by
  unfold pianolaref01_Check.f step_Check.f
  rw [is_f, Option.bind_some]
  cases isIn 0 a 50
  · rfl
  · rw [if_pos rfl, if_neg (show ¬ (true = false) from Bool.noConfusion)]
    by_cases h0 : l.length = 0
    · rw [if_pos (by omega), if_pos h0]
    · rw [if_neg (by omega), if_neg h0]
      by_cases h6 : 6 < l.length
      · rw [if_pos (by omega), if_pos h6]
      · rw [if_neg (by omega), if_neg h6]
        exact rcheck0 a l (by omega) l.length 0 (by omega) k (by omega)

/-! the reference's Name -/
end Go.Proofs.Ytnbcdbkhpdpjgaa.H
