/- Plain laws: the reference's rows, fits, offsets and asked, and step's offsets, as one plain form. -/
import Derived.Test.YtnbcdbkhpdpjgaaHC
import Derived.Test.YtnbcdbkhpdpjgaaH7
namespace Go.Proofs.Ytnbcdbkhpdpjgaa.H
open Go.RowKit Go.Proofs.YtnbcdbkhpdpjgaaW.PrintWords Go.Proofs.YtnbcdbkhpdpjgaaW.PrintLast Go.Proofs.YtnbcdbkhpdpjgaaW.PrintMore
open Go.Proofs.Ytnbcdbkhpdpjgaa.QA
set_option linter.unusedVariables false
set_option linter.unusedSimpArgs false

theorem abs_ediv (n d M : Int) (hd : 0 < d) (h1 : -M ≤ n) (h2 : n ≤ M) : -M - 1 ≤ n / d ∧ n / d ≤ M + 1 := by
  have e := Int.emod_add_mul_ediv n d
  have h3 := Int.emod_nonneg n (show d ≠ 0 by omega)
  have h4 := Int.emod_lt_of_pos n hd
  constructor
  · rw [Int.le_ediv_iff_mul_le hd]
    have : (M + 1) * 1 ≤ (M + 1) * d := Int.mul_le_mul_of_nonneg_left (by omega) (by omega)
    have e2 : (-M - 1) * d = -((M + 1) * d) := by rw [← Int.neg_mul]; congr 1; omega
    omega
  · have h5 : n / d < M + 2 := by
      rw [Int.ediv_lt_iff_lt_mul hd]
      have : (M + 2) * 1 ≤ (M + 2) * d := Int.mul_le_mul_of_nonneg_left (by omega) (by omega)
      omega
    omega

theorem sfloor (n d : Int) (hd : 0 < d) (hd2 : d ≤ 1000000000000) (h1 : -1000000000000 ≤ n) (h2 : n ≤ 1000000000000) : step_floor.f n d = some (n / d) := by
  have hb := abs_ediv n d _ hd h1 h2
  have h3 := Int.emod_nonneg n (show d ≠ 0 by omega)
  have h4 := Int.emod_lt_of_pos n hd
  unfold step_floor.f
  rw [modulo_spec _ _ hd hd2, Option.bind_some, if_neg (by omega), w64 (n - n % d) (by omega) (by omega)]
  have e : n - n % d = d * (n / d) := by have := Int.emod_add_mul_ediv n d; omega
  rw [e, Int.mul_tdiv_cancel_left _ (by omega), w64 _ (by omega) (by omega)]

/-- The rows near a position. -/
def lowRow (off p s o : Int) : Int := -((o + off - p) / s)
def highRow (off p s o : Int) : Int := (p - o + off) / s
def fitB (off s o p : Int) : Bool := decide (lowRow off p s o ≤ highRow off p s o)

theorem fit_mod (off s o p : Int) (hs : 0 < s) : fitB off s o p = decide ((o + off - p) % s ≤ 2 * off) := by
  unfold fitB lowRow highRow
  have e := Int.emod_add_mul_ediv (o + off - p) s
  have e2 : p - o + off = (2 * off - (o + off - p) % s) + s * (-((o + off - p) / s)) := by rw [Int.mul_neg]; omega
  rw [e2, Int.add_mul_ediv_left _ _ (by omega)]
  have h := Int.ediv_nonneg_iff_of_pos (a := 2 * off - (o + off - p) % s) hs
  generalize (2 * off - (o + off - p) % s) / s = u at *
  generalize (o + off - p) / s = q at *
  exact decide_eq_decide.2 ⟨fun h2 => by have := h.1 (by omega); omega, fun h2 => by have := h.2 (by omega); omega⟩

theorem has_mod (off s o p : Int) (hs : 0 < s) (ho : 0 ≤ off) : hasB s o (arcAt off s p) = decide ((o + off - p) % s ≤ 2 * off) := by
  unfold hasB arcAt
  have h1 := Int.emod_lt_of_pos (o + off - p) hs
  have h2 := Int.emod_lt_of_pos o hs
  by_cases hm : min s (2 * off + 1) = s
  · simp only [if_pos hm]
    rw [hm, Int.sub_zero]
    exact decide_eq_decide.2 ⟨fun _ => by omega, fun _ => by omega⟩
  · simp only [if_neg hm]
    have e : (o - (p - off) % s) % s = (o + off - p) % s := by
      rw [Int.sub_emod, Int.emod_emod_of_dvd _ (Int.dvd_refl s), ← Int.sub_emod]
      congr 1; omega
    rw [e, show min s (2 * off + 1) = 2 * off + 1 by omega]
    exact decide_eq_decide.2 ⟨fun _ => by omega, fun _ => by omega⟩

theorem fit_has (off s o p : Int) (hs : 0 < s) (ho : 0 ≤ off) : hasB s o (arcAt off s p) = fitB off s o p := (has_mod off s o p hs ho).trans (fit_mod off s o p hs).symm

theorem put_any (f : S98 → Bool) (acc : List S98) (a : S98) : (putArc acc a).any f = (acc.any f || f a) := by
  unfold putArc
  split
  · rename_i h
    obtain ⟨x, hx, he⟩ := List.any_eq_true.1 h
    have e : a = x := by
      cases a; cases x
      simp at he
      rw [he.1, he.2]
    subst e
    cases hf : f a
    · simp
    · rw [List.any_eq_true.2 ⟨a, hx, hf⟩]; rfl
  · rw [List.any_append]; simp

theorem arcs_any (f : S98 → Bool) (off s : Int) : ∀ (l : List Int) (acc : List S98), (l.foldl (addArc off s) acc).any f = (acc.any f || l.any fun p => f (arcAt off s p))
  | [], acc => by simp
  | p :: l, acc => by
    rw [List.foldl_cons, arcs_any f off s l, addArc, put_any, List.any_cons, Bool.or_assoc]

/-- What the offsets are: where all positions fit. -/
theorem offsB_fits (off s o : Int) (l : List Int) (hs : 0 < s) (ho : 0 ≤ off) : offsB (arcsOf off s l) s o = l.all (fitB off s o) := by
  unfold offsB arcsOf
  rw [arcs_any]
  simp only [List.any_nil, Bool.false_or, fit_has off s o _ hs ho]
  rw [List.all_eq_not_any_not]

/-! the reference's fits, offsets -/
/-! equal lists -/
theorem numbers_self (l : List Int) (hl : l.length ≤ 1000000) : ∀ n (i : Nat), l.length = i + n → ∀ k, n + 1 ≤ k → pianolalaw01_numbers.l0 k l l (i : Int) = some true
  | 0, i, hi, k + 1, hk => by rw [pianolalaw01_numbers.l0, if_neg (by omega)]
  | n + 1, i, hi, k + 1, hk => by
    rw [pianolalaw01_numbers.l0, if_pos (by omega), if_pos (by omega), if_pos (by omega), if_pos rfl, next64 i l.length (by omega) (by omega), numbers_self l hl n (i + 1) (by omega) k (by omega)]
theorem numbers_f (l : List Int) (hl : l.length ≤ 1000000) (k : Nat) (hk : l.length + 1 ≤ k) : pianolalaw01_numbers.f k l l = some true := by
  unfold pianolalaw01_numbers.f
  rw [if_pos rfl]
  exact numbers_self l hl l.length 0 (by omega) k hk
end Go.Proofs.Ytnbcdbkhpdpjgaa.H
