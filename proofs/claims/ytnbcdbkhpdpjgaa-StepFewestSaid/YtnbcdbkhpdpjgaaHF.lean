/- Plain laws: the reference's rows, fits, offsets and asked, and step's offsets, as one plain form. -/
import Derived.Test.YtnbcdbkhpdpjgaaHC
import Derived.Test.YtnbcdbkhpdpjgaaH7
namespace Go.Proofs.Ytnbcdbkhpdpjgaa.H
open Go.RowKit Go.Proofs.YtnbcdbkhpdpjgaaW.PrintWords Go.Proofs.YtnbcdbkhpdpjgaaW.PrintLast Go.Proofs.YtnbcdbkhpdpjgaaW.PrintMore
open Go.Proofs.Ytnbcdbkhpdpjgaa.QA
set_option linter.unusedVariables false
set_option linter.unusedSimpArgs false

theorem floor_neg (n d : Int) (hd : 0 < d) : n / d = if (-n) % d = 0 then -((-n) / d) else -((-n) / d) - 1 := by
  have h1 := Int.emod_add_mul_ediv (-n) d
  have h2 := Int.emod_nonneg (-n) (show d ≠ 0 by omega)
  have h3 := Int.emod_lt_of_pos (-n) hd
  generalize (-n) / d = q at *
  generalize (-n) % d = r at *
  split
  · rename_i h
    exact ((Int.ediv_emod_unique hd (r := 0) (q := -q)).2 ⟨by rw [Int.mul_neg]; omega, by omega, hd⟩).1
  · rename_i h
    refine ((Int.ediv_emod_unique hd (r := d - r) (q := -q - 1)).2 ⟨?_, by omega, by omega⟩).1
    rw [Int.mul_sub, Int.mul_neg, Int.mul_one]; omega

theorem abs_ediv (n d M : Int) (hd : 0 < d) (h1 : -M ≤ n) (h2 : n ≤ M) : -M - 1 ≤ n / d ∧ n / d ≤ M + 1 := by
  have e := Int.emod_add_mul_ediv n d
  have h3 := Int.emod_nonneg n (show d ≠ 0 by omega)
  have h4 := Int.emod_lt_of_pos n hd
  constructor
  · rw [Int.le_ediv_iff_mul_le hd]
    have : (M + 1) * 1 ≤ (M + 1) * d := Int.mul_le_mul_of_nonneg_left (by omega) (by omega)
    have e2 : (-M - 1) * d = -((M + 1) * d) := by rw [← Int.neg_mul]; congr 1; omega
    omega
  · have h5 : n / d < M + 2 := by
      rw [Int.ediv_lt_iff_lt_mul hd]
      have : (M + 2) * 1 ≤ (M + 2) * d := Int.mul_le_mul_of_nonneg_left (by omega) (by omega)
      omega
    omega

theorem rfloor (n d : Int) (hd : 0 < d) (h1 : -1000000000000 ≤ n) (h2 : n ≤ 1000000000000) : pianolaref01_Floor.f n d = some (n / d) := by
  have hb := abs_ediv n d _ hd h1 h2
  unfold pianolaref01_Floor.f
  rw [if_neg (by omega)]
  by_cases hn : 0 ≤ n
  · have h3 := Int.emod_nonneg n (show d ≠ 0 by omega)
    rw [Int.tmod_eq_emod_of_nonneg hn, if_neg (by omega), Int.tdiv_eq_ediv_of_nonneg hn, w64 _ (by omega) (by omega)]
  · have e : Int.tmod n d = -((-n) % d) := by
      rw [← Int.tmod_eq_emod_of_nonneg (show 0 ≤ -n by omega), Int.neg_tmod]; omega
    have e2 : Int.tdiv n d = -((-n) / d) := by
      rw [← Int.tdiv_eq_ediv_of_nonneg (show 0 ≤ -n by omega), Int.neg_tdiv]; omega
    have h3 := Int.emod_nonneg (-n) (show d ≠ 0 by omega)
    have hf := floor_neg n d hd
    have hb2 := abs_ediv (-n) d 1000000000000 hd (by omega) (by omega)
    rw [e, e2, w64 (-((-n) / d)) (by omega) (by omega)]
    by_cases h0 : (-n) % d = 0
    · rw [if_neg (by omega)]; rw [if_pos h0] at hf; rw [hf]
    · rw [if_pos (by omega), w64 _ (by omega) (by omega)]; rw [if_neg h0] at hf; rw [hf]

/-- The rows near a position. -/
def lowRow (off p s o : Int) : Int := -((o + off - p) / s)
def highRow (off p s o : Int) : Int := (p - o + off) / s
def fitB (off s o p : Int) : Bool := decide (lowRow off p s o ≤ highRow off p s o)

theorem rrows (off : Int) (l : List (List Int)) (p s o : Int) (hs : 0 < s) (h1 : 0 ≤ off ∧ off ≤ 1000) (h2 : 0 ≤ p ∧ p ≤ 1000000) (h3 : -1000000000 ≤ o ∧ o ≤ 1000000000) :
    pianolaref01_rows.f off l p s o = some (lowRow off p s o, highRow off p s o) := by
  unfold pianolaref01_rows.f pianolaref01_Ceil.f lowRow highRow
  have hb := abs_ediv (o + off - p) s 2000000000 hs (by omega) (by omega)
  rw [w64 (p - o) (by omega) (by omega), w64 (p - o - off) (by omega) (by omega), w64 (p - o + off) (by omega) (by omega), w64 (-(p - o - off)) (by omega) (by omega), show -(p - o - off) = o + off - p by omega, rfloor _ _ hs (by omega) (by omega), rfloor _ _ hs (by omega) (by omega)]
  simp only [Option.bind_some]
  rw [w64 _ (by omega) (by omega)]

theorem fit_mod (off s o p : Int) (hs : 0 < s) : fitB off s o p = decide ((o + off - p) % s ≤ 2 * off) := by
  unfold fitB lowRow highRow
  have e := Int.emod_add_mul_ediv (o + off - p) s
  have e2 : p - o + off = (2 * off - (o + off - p) % s) + s * (-((o + off - p) / s)) := by rw [Int.mul_neg]; omega
  rw [e2, Int.add_mul_ediv_left _ _ (by omega)]
  have h := Int.ediv_nonneg_iff_of_pos (a := 2 * off - (o + off - p) % s) hs
  generalize (2 * off - (o + off - p) % s) / s = u at *
  generalize (o + off - p) / s = q at *
  exact decide_eq_decide.2 ⟨fun h2 => by have := h.1 (by omega); omega, fun h2 => by have := h.2 (by omega); omega⟩

theorem has_mod (off s o p : Int) (hs : 0 < s) (ho : 0 ≤ off) : hasB s o (arcAt off s p) = decide ((o + off - p) % s ≤ 2 * off) := by
  unfold hasB arcAt
  have h1 := Int.emod_lt_of_pos (o + off - p) hs
  have h2 := Int.emod_lt_of_pos o hs
  by_cases hm : min s (2 * off + 1) = s
  · simp only [if_pos hm]
    rw [hm, Int.sub_zero]
    exact decide_eq_decide.2 ⟨fun _ => by omega, fun _ => by omega⟩
  · simp only [if_neg hm]
    have e : (o - (p - off) % s) % s = (o + off - p) % s := by
      rw [Int.sub_emod, Int.emod_emod_of_dvd _ (Int.dvd_refl s), ← Int.sub_emod]
      congr 1; omega
    rw [e, show min s (2 * off + 1) = 2 * off + 1 by omega]
    exact decide_eq_decide.2 ⟨fun _ => by omega, fun _ => by omega⟩

theorem fit_has (off s o p : Int) (hs : 0 < s) (ho : 0 ≤ off) : hasB s o (arcAt off s p) = fitB off s o p := (has_mod off s o p hs ho).trans (fit_mod off s o p hs).symm

theorem put_any (f : S98 → Bool) (acc : List S98) (a : S98) : (putArc acc a).any f = (acc.any f || f a) := by
  unfold putArc
  split
  · rename_i h
    obtain ⟨x, hx, he⟩ := List.any_eq_true.1 h
    have e : a = x := by
      cases a; cases x
      simp at he
      rw [he.1, he.2]
    subst e
    cases hf : f a
    · simp
    · rw [List.any_eq_true.2 ⟨a, hx, hf⟩]; rfl
  · rw [List.any_append]; simp

theorem arcs_any (f : S98 → Bool) (off s : Int) : ∀ (l : List Int) (acc : List S98), (l.foldl (addArc off s) acc).any f = (acc.any f || l.any fun p => f (arcAt off s p))
  | [], acc => by simp
  | p :: l, acc => by
    rw [List.foldl_cons, arcs_any f off s l, addArc, put_any, List.any_cons, Bool.or_assoc]

/-- What the offsets are: where all positions fit. -/
theorem offsB_fits (off s o : Int) (l : List Int) (hs : 0 < s) (ho : 0 ≤ off) : offsB (arcsOf off s l) s o = l.all (fitB off s o) := by
  unfold offsB arcsOf
  rw [arcs_any]
  simp only [List.any_nil, Bool.false_or, fit_has off s o _ hs ho]
  rw [List.all_eq_not_any_not]

/-! the reference's fits, offsets -/
theorem rfits (off : Int) (ls : List (List Int)) (l : List Int) (s o : Int) (hs : 0 < s) (h1 : 0 ≤ off ∧ off ≤ 1000) (h2 : ∀ p ∈ l, 0 ≤ p ∧ p ≤ 1000000) (h3 : -1000000000 ≤ o ∧ o ≤ 1000000000) (hl : l.length ≤ 1000) :
    ∀ n (i : Nat), l.length = i + n → ∀ k, n + 1 ≤ k → pianolaref01_fits.l0 k l s o (i : Int) off ls = some ((l.drop i).all (fitB off s o))
  | 0, i, hi, k + 1, hk => by
    rw [pianolaref01_fits.l0, if_neg (by omega), List.drop_eq_nil_of_le (by omega)]; rfl
  | n + 1, i, hi, k + 1, hk => by
    have hlt : i < l.length := by omega
    rw [pianolaref01_fits.l0, if_pos (by omega), if_pos (by omega), rd_nat _ _ hlt, rrows off ls _ s o hs h1 (h2 _ (List.getElem_mem hlt)) h3, Option.bind_some, List.drop_eq_getElem_cons hlt, List.all_cons, next64 i l.length hlt (by omega), rfits off ls l s o hs h1 h2 h3 hl n (i + 1) (by omega) k (by omega)]
    unfold fitB
    by_cases h : lowRow off l[i] s o ≤ highRow off l[i] s o
    · rw [if_neg (show ¬ (lowRow off l[i] s o > highRow off l[i] s o) by omega), decide_eq_true h]; rfl
    · rw [if_pos (show (lowRow off l[i] s o > highRow off l[i] s o) by omega), decide_eq_false h]; rfl

/-- What is asked is in order: the copy, and what is true of it. -/
def Asked (a : Int) (ls : List (List Int)) (a1 a2 : Int) (l : List Int) : Prop :=
  (0 ≤ a ∧ a ≤ 50) ∧ (1 ≤ a2 ∧ a2 ≤ 1000) ∧ (0 ≤ a1 ∧ a1 < ls.length) ∧ ls.length ≤ 6 ∧ l = rd_L1 ls a1 ∧ 0 < l.length ∧ l.length ≤ 12 ∧ (∀ p ∈ l, 0 ≤ p ∧ p ≤ 1000000)

theorem asked_cases (a : Int) (ls : List (List Int)) (a1 a2 : Int) (k : Nat) (hk : 200 ≤ k) :
    (∃ l, Asked a ls a1 a2 l ∧ step_Sheet_asked.f a ls a1 a2 = some (l, 0) ∧ pianolaref01_asked.f k a ls a1 a2 = some 0) ∨
    (∃ e, e ≠ 0 ∧ step_Sheet_asked.f a ls a1 a2 = some ([], e) ∧ pianolaref01_asked.f k a ls a1 a2 = some e) := by
  unfold step_Sheet_asked.f pianolaref01_asked.f
  rw [rcheck_f a ls k hk]
  obtain ⟨c, e⟩ : ∃ c, step_Check.f a ls = some c := ⟨_, rfl⟩
  rw [e]
  simp only [Option.bind_some, between_f, is_f]
  by_cases hc : c = 0
  · subst hc
    obtain ⟨h1, h2, h3, h4⟩ := check_ok e
    rw [w64 _ (by omega) (by omega), if_pos rfl, if_pos rfl]
    by_cases ha : 0 ≤ a1 ∧ a1 ≤ (ls.length : Int) - 1
    · have hi : isIn 0 a1 ((ls.length : Int) - 1) = true := by unfold isIn; rw [decide_eq_true ha.1, decide_eq_true ha.2]; rfl
      rw [hi, if_pos rfl, if_pos rfl]
      by_cases hb : 1 ≤ a2 ∧ a2 ≤ 1000
      · have hj : isIn 1 a2 1000 = true := by unfold isIn; rw [decide_eq_true hb.1, decide_eq_true hb.2]; rfl
        rw [hj, if_pos rfl, if_pos rfl, if_pos ha.1, if_pos (by omega)]
        left
        have hlt : a1.toNat < ls.length := by omega
        have hm : rd_L1 ls a1 ∈ ls := by
          unfold rd_L1; rw [List.getD_eq_getElem?_getD, List.getElem?_eq_getElem hlt]; exact List.getElem_mem hlt
        obtain ⟨g1, g2, g3⟩ := h4 _ hm
        exact ⟨_, ⟨h1, hb, ⟨ha.1, by omega⟩, h3, rfl, g1, g2, g3⟩, rfl, rfl⟩
      · have hj : isIn 1 a2 1000 = false := by
          unfold isIn
          by_cases h5 : 1 ≤ a2
          · rw [decide_eq_true h5, decide_eq_false (by omega : ¬ a2 ≤ 1000)]; rfl
          · rw [decide_eq_false h5]; rfl
        rw [hj]
        exact Or.inr ⟨3, by decide, rfl, rfl⟩
    · have hi : isIn 0 a1 ((ls.length : Int) - 1) = false := by
        unfold isIn
        by_cases h5 : 0 ≤ a1
        · rw [decide_eq_true h5, decide_eq_false (by omega : ¬ a1 ≤ (ls.length : Int) - 1)]; rfl
        · rw [decide_eq_false h5]; rfl
      rw [hi]
      exact Or.inr ⟨8, by decide, rfl, rfl⟩
  · rw [if_neg hc, if_neg hc]
    exact Or.inr ⟨c, hc, rfl, rfl⟩

/-! equal lists -/
end Go.Proofs.Ytnbcdbkhpdpjgaa.H
