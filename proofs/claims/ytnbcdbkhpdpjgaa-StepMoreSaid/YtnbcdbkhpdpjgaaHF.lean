/- Plain laws: the reference's rows, fits, offsets and asked, and step's offsets, as one plain form. -/
import Derived.Test.YtnbcdbkhpdpjgaaQA3
import Derived.Test.YtnbcdbkhpdpjgaaH2
import Derived.Test.YtnbcdbkhpdpjgaaH4
import Derived.Test.YtnbcdbkhpdpjgaaH7
namespace Go.Proofs.Ytnbcdbkhpdpjgaa.H
open Go.RowKit Go.Proofs.YtnbcdbkhpdpjgaaW.PrintWords Go.Proofs.YtnbcdbkhpdpjgaaW.PrintLast Go.Proofs.YtnbcdbkhpdpjgaaW.PrintMore
open Go.Proofs.Ytnbcdbkhpdpjgaa.QA
set_option linter.unusedVariables false
set_option linter.unusedSimpArgs false

/-- The rows near a position. -/
def lowRow (off p s o : Int) : Int := -((o + off - p) / s)
def highRow (off p s o : Int) : Int := (p - o + off) / s
def fitB (off s o p : Int) : Bool := decide (lowRow off p s o ≤ highRow off p s o)

theorem fit_mod (off s o p : Int) (hs : 0 < s) : fitB off s o p = decide ((o + off - p) % s ≤ 2 * off) := by
  unfold fitB lowRow highRow
  have e := Int.emod_add_mul_ediv (o + off - p) s
  have e2 : p - o + off = (2 * off - (o + off - p) % s) + s * (-((o + off - p) / s)) := by rw [Int.mul_neg]; omega
  rw [e2, Int.add_mul_ediv_left _ _ (by omega)]
  have h := Int.ediv_nonneg_iff_of_pos (a := 2 * off - (o + off - p) % s) hs
  generalize (2 * off - (o + off - p) % s) / s = u at *
  generalize (o + off - p) / s = q at *
  exact decide_eq_decide.2 ⟨fun h2 => by have := h.1 (by omega); omega, fun h2 => by have := h.2 (by omega); omega⟩

theorem has_mod (off s o p : Int) (hs : 0 < s) (ho : 0 ≤ off) : hasB s o (arcAt off s p) = decide ((o + off - p) % s ≤ 2 * off) := by
  unfold hasB arcAt
  have h1 := Int.emod_lt_of_pos (o + off - p) hs
  have h2 := Int.emod_lt_of_pos o hs
  by_cases hm : min s (2 * off + 1) = s
  · simp only [if_pos hm]
    rw [hm, Int.sub_zero]
    exact decide_eq_decide.2 ⟨fun _ => by omega, fun _ => by omega⟩
  · simp only [if_neg hm]
    have e : (o - (p - off) % s) % s = (o + off - p) % s := by
      rw [Int.sub_emod, Int.emod_emod_of_dvd _ (Int.dvd_refl s), ← Int.sub_emod]
      congr 1; omega
    rw [e, show min s (2 * off + 1) = 2 * off + 1 by omega]
    exact decide_eq_decide.2 ⟨fun _ => by omega, fun _ => by omega⟩

theorem fit_has (off s o p : Int) (hs : 0 < s) (ho : 0 ≤ off) : hasB s o (arcAt off s p) = fitB off s o p := (has_mod off s o p hs ho).trans (fit_mod off s o p hs).symm

theorem put_any (f : S98 → Bool) (acc : List S98) (a : S98) : (putArc acc a).any f = (acc.any f || f a) := by
  unfold putArc
  split
  · rename_i h
    obtain ⟨x, hx, he⟩ := List.any_eq_true.1 h
    have e : a = x := by
      cases a; cases x
      simp at he
      rw [he.1, he.2]
    subst e
    cases hf : f a
    · simp
    · rw [List.any_eq_true.2 ⟨a, hx, hf⟩]; rfl
  · rw [List.any_append]; simp

theorem arcs_any (f : S98 → Bool) (off s : Int) : ∀ (l : List Int) (acc : List S98), (l.foldl (addArc off s) acc).any f = (acc.any f || l.any fun p => f (arcAt off s p))
  | [], acc => by simp
  | p :: l, acc => by
    rw [List.foldl_cons, arcs_any f off s l, addArc, put_any, List.any_cons, Bool.or_assoc]

/-- What the offsets are: where all positions fit. -/
theorem offsB_fits (off s o : Int) (l : List Int) (hs : 0 < s) (ho : 0 ≤ off) : offsB (arcsOf off s l) s o = l.all (fitB off s o) := by
  unfold offsB arcsOf
  rw [arcs_any]
  simp only [List.any_nil, Bool.false_or, fit_has off s o _ hs ho]
  rw [List.all_eq_not_any_not]

/-! the reference's fits, offsets -/
/-! equal lists -/
end Go.Proofs.Ytnbcdbkhpdpjgaa.H
