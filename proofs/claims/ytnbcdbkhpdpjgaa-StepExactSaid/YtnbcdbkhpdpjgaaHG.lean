/- Plain laws of StepOffsets; the walk of given. -/
import Derived.Test.YtnbcdbkhpdpjgaaHF
import Derived.Test.YtnbcdbkhpdpjgaaQC0
import Derived.Test.YtnbcdbkhpdpjgaaQA7
namespace Go.Proofs.Ytnbcdbkhpdpjgaa.H
open Go.RowKit Go.Proofs.YtnbcdbkhpdpjgaaW.PrintWords Go.Proofs.YtnbcdbkhpdpjgaaW.PrintLast Go.Proofs.YtnbcdbkhpdpjgaaW.PrintMore
open Go.Shelf Go.Proofs.Ytnbcdbkhpdpjgaa.QA
set_option linter.unusedVariables false
set_option linter.unusedSimpArgs false

def rowAt (off s o p : Int) : S46 := ⟨lowRow off p s o, highRow off p s o⟩

theorem srows (off : Int) (ls : List (List Int)) (l : List Int) (s o : Int) (hs : 0 < s) (hs2 : s ≤ 1000) (h1 : 0 ≤ off ∧ off ≤ 1000) (h2 : ∀ p ∈ l, 0 ≤ p ∧ p ≤ 1000000) (h3 : 0 ≤ o ∧ o ≤ 1000) (hl : l.length ≤ 12) :
    ∀ n (i : Nat), l.length = i + n → ∀ k, n + 1 ≤ k → ∀ acc : List S46, acc.length ≤ i → step_Rows.l0 k s o acc l (l.length : Int) (i : Int) off ls = if (l.drop i).all (fitB off s o) = true then some (acc ++ (l.drop i).map (rowAt off s o), 0) else some ([], 8)
  | 0, i, hi, k + 1, hk, acc, ha => by
    rw [step_Rows.l0, if_neg (by omega), List.drop_eq_nil_of_le (by omega)]; simp
  | n + 1, i, hi, k + 1, hk, acc, ha => by
    have hlt : i < l.length := by omega
    have hp := h2 _ (List.getElem_mem hlt)
    have hb := abs_ediv (o + off - l[i]) s 2000000000 hs (by omega) (by omega)
    rw [step_Rows.l0, if_pos (by omega), if_pos (by omega), if_pos (by omega), rd_nat _ _ hlt, w64 (o + off) (by omega) (by omega), w64 (o + off - l[i]) (by omega) (by omega), w64 (l[i] - o) (by omega) (by omega), w64 (l[i] - o + off) (by omega) (by omega), sfloor _ _ hs (by omega) (by omega) (by omega), Option.bind_some, sfloor _ _ hs (by omega) (by omega) (by omega), Option.bind_some,
      w64 (-((o + off - l[i]) / s)) (by omega) (by omega), List.drop_eq_getElem_cons hlt, List.all_cons, List.map_cons, next64 i l.length hlt (by omega)]
    rw [show -((o + off - l[i]) / s) = lowRow off l[i] s o from rfl, show (l[i] - o + off) / s = highRow off l[i] s o from rfl]
    by_cases h : lowRow off l[i] s o ≤ highRow off l[i] s o
    · have hf : fitB off s o l[i] = true := decide_eq_true h
      rw [if_neg (show ¬ (lowRow off l[i] s o > highRow off l[i] s o) by omega), if_pos (by omega), srows off ls l s o hs hs2 h1 h2 h3 hl n (i + 1) (by omega) k (by omega) _ (by simp; omega), hf, Bool.true_and, List.append_assoc]
      rfl
    · have hf : fitB off s o l[i] = false := decide_eq_false h
      rw [if_pos (show (lowRow off l[i] s o > highRow off l[i] s o) by omega), hf, Bool.false_and, if_neg (by simp)]

end Go.Proofs.Ytnbcdbkhpdpjgaa.H
