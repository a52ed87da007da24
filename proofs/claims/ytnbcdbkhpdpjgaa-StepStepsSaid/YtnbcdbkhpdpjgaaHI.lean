/- Plain laws of StepSteps: possible steps, and the greatest, as the reference has them. -/
import Derived.Test.YtnbcdbkhpdpjgaaHF
import Derived.Test.YtnbcdbkhpdpjgaaH5
import Derived.Test.YtnbcdbkhpdpjgaaQC1
import Derived.Test.YtnbcdbkhpdpjgaaQA9
namespace Go.Proofs.Ytnbcdbkhpdpjgaa.H
open Go.RowKit Go.Proofs.YtnbcdbkhpdpjgaaW.PrintWords Go.Proofs.YtnbcdbkhpdpjgaaW.PrintLast Go.Proofs.YtnbcdbkhpdpjgaaW.PrintMore
open Go.Proofs.Ytnbcdbkhpdpjgaa.QA
set_option linter.unusedVariables false
set_option linter.unusedSimpArgs false

theorem list_min {α : Type} (f : α → Int) : ∀ l : List α, l ≠ [] → ∃ a ∈ l, ∀ b ∈ l, f a ≤ f b
  | [], h => absurd rfl h
  | [a], _ => ⟨a, by simp, fun b hb => by rw [List.mem_singleton.1 hb]; exact Int.le_refl _⟩
  | a :: c :: l, _ => by
    obtain ⟨m, hm, hle⟩ := list_min f (c :: l) (by simp)
    by_cases h : f a ≤ f m
    · refine ⟨a, by simp, fun b hb => ?_⟩
      rcases List.mem_cons.1 hb with rfl | hb
      · exact Int.le_refl _
      · exact Int.le_trans h (hle b hb)
    · refine ⟨m, List.mem_cons_of_mem _ hm, fun b hb => ?_⟩
      rcases List.mem_cons.1 hb with rfl | hb
      · omega
      · exact hle b hb

theorem arcsOf_ne (off s : Int) (l : List Int) (h : l ≠ []) : arcsOf off s l ≠ [] := by
  intro e
  have h1 := arcs_any (fun _ => true) off s l []
  unfold arcsOf at e
  rw [e] at h1
  cases l with
  | nil => exact h rfl
  | cons a l => simp at h1

/-- A step is allowed just if there is an offset. -/
theorem allows_offs (off s : Int) (l : List Int) (hs : 0 < s) (hl : l ≠ []) : allowsB off s l = decide ((offsOf off s l).length > 0) := by
  have hin : ∀ b ∈ arcsOf off s l, 0 ≤ b.f0 ∧ b.f0 < s := arcsOf_in off s (by omega) l [] (by simp)
  have hne := arcsOf_ne off s l hl
  unfold allowsB offsOf
  generalize arcsOf off s l = arcs at *
  rw [Bool.eq_iff_iff]
  constructor
  · intro h
    obtain ⟨a, ha, hb⟩ := List.any_eq_true.1 h
    obtain ⟨h0, h1⟩ := hin a ha
    refine decide_eq_true (List.length_pos_of_mem (a := a.f0) ?_)
    unfold offsTo
    refine List.mem_filter.2 ⟨List.mem_map.2 ⟨a.f0.toNat, List.mem_range.2 (by omega), by omega⟩, ?_⟩
    exact hb
  · intro h
    have h := of_decide_eq_true h
    obtain ⟨o, ho⟩ := List.exists_mem_of_length_pos h
    unfold offsTo at ho
    obtain ⟨ho1, ho2⟩ := List.mem_filter.1 ho
    unfold offsB at ho2
    have hall : ∀ b ∈ arcs, (o - b.f0) % s < b.f1 := by
      intro b hb
      have h3 : (arcs.any fun b => !hasB s o b) = false := by simpa using ho2
      have h4 := List.any_eq_false.1 h3 b hb
      unfold hasB at h4
      simpa using h4
    obtain ⟨a, ha, hmin⟩ := list_min (fun b : S98 => (o - b.f0) % s) arcs hne
    refine List.any_eq_true.2 ⟨a, ha, ?_⟩
    have h5 : (arcs.any fun b => !hasB s a.f0 b) = false := by
      refine List.any_eq_false.2 fun b hb => ?_
      have h6 := hmin b hb
      have h7 := hall b hb
      have h8 := Int.emod_nonneg (o - a.f0) (show s ≠ 0 by omega)
      have h9 := Int.emod_lt_of_pos (o - b.f0) hs
      have e : (a.f0 - b.f0) % s = (o - b.f0) % s - (o - a.f0) % s := by
        rw [show a.f0 - b.f0 = (o - b.f0) - (o - a.f0) by omega, Int.sub_emod]
        exact Int.emod_eq_of_lt (by omega) (by omega)
      unfold hasB
      rw [e, decide_eq_true (by omega)]
      simp
    rw [h5]; rfl

theorem stepsFrom_length (off : Int) (ls : List (List Int)) : ∀ n s, (stepsFrom off ls n s).length ≤ n
  | 0, s => by simp [stepsFrom]
  | n + 1, s => by
    have := stepsFrom_length off ls n (s + 1)
    rw [stepsFrom, List.length_append]
    split <;> simp <;> omega

def Fine (a : Int) (ls : List (List Int)) : Prop := (0 ≤ a ∧ a ≤ 50) ∧ 0 < ls.length ∧ ls.length ≤ 6 ∧ ∀ l ∈ ls, 0 < l.length ∧ l.length ≤ 12 ∧ ∀ p ∈ l, 0 ≤ p ∧ p ≤ 1000000

theorem rsteps1 (a : Int) (ls : List (List Int)) (hF : Fine a ls) (lo hi s : Int) (hs : 0 < s) (hs2 : s ≤ 1000) (out : List Int) (ho : out.length ≤ 5000) : ∀ n (i : Nat), ls.length = i + n → ∀ (ok : Bool) k, 2000 ≤ k →
    pianolaref01_Steps.l1 (k + n + 1) out s ok (i : Int) a ls lo hi = if (ok && (ls.drop i).all (allowsB a s)) = true then pianolaref01_Steps.l0 k (out ++ [s]) (s + 1) a ls lo hi else pianolaref01_Steps.l0 k out (s + 1) a ls lo hi
  | 0, i, hi', ok, k, hk => by
    rw [pianolaref01_Steps.l1, if_neg (by omega), List.drop_eq_nil_of_le (by omega), w64 (s + 1) (by omega) (by omega)]
    cases ok
    · rfl
    · rw [if_pos rfl, if_pos (by omega)]; rfl
  | n + 1, i, hi', ok, k, hk => by
    obtain ⟨h1, h2, h3, h4⟩ := hF
    have hlt : i < ls.length := by omega
    have e : rd_L1 ls (i : Int) = ls[i] := by unfold rd_L1; rw [Int.toNat_natCast, List.getD_eq_getElem?_getD, List.getElem?_eq_getElem hlt]; rfl
    obtain ⟨g1, g2, g3⟩ := h4 _ (List.getElem_mem hlt)
    have ih := fun ok => rsteps1 a ls ⟨h1, h2, h3, h4⟩ lo hi s hs hs2 out ho n (i + 1) (by omega) ok k hk
    rw [show k + (n + 1) + 1 = (k + n + 1) + 1 from rfl, pianolaref01_Steps.l1, if_pos (by omega), next64 i ls.length hlt (by omega), List.drop_eq_getElem_cons hlt, List.all_cons]
    have eA : allowsB a s ls[i] = decide (((offsOf a s ls[i]).length : Int) > 0) := (allows_offs a s ls[i] hs (fun e => by rw [e] at g1; simp at g1)).trans (decide_eq_decide.2 (by omega))
    cases ok
    · rw [if_neg (show ¬ (false = true) by decide), ih]; rfl
    · rw [if_pos rfl, if_pos (by omega), e, roffs_f a ls ls[i] s hs hs2 ⟨h1.1, by omega⟩ g3 g2 _ (by omega), Option.bind_some, ih, ← eA, Bool.true_and]

theorem rsteps0 (a : Int) (ls : List (List Int)) (hF : Fine a ls) (lo hi : Int) (hh : hi ≤ 1000) : ∀ n (s : Int), 0 < s → (hi - s + 1).toNat = n → ∀ (out : List Int) k, out.length + n ≤ 5000 → 2000 + 10 * n + 1 ≤ k →
    pianolaref01_Steps.l0 k out s a ls lo hi = some (out ++ stepsFrom a ls n s, 0)
  | 0, s, hs, hn, out, k + 1, ho, hk => by
    rw [pianolaref01_Steps.l0, if_neg (by omega)]; simp [stepsFrom]
  | n + 1, s, hs, hn, out, k + 1, ho, hk => by
    have h6 := hF.2.2.1
    obtain ⟨k', rfl⟩ : ∃ k', k = k' + ls.length + 1 := ⟨k - ls.length - 1, by omega⟩
    have h1 := rsteps1 a ls hF lo hi s hs (by omega) out (by omega) ls.length 0 (by omega) true k' (by omega)
    rw [Int.natCast_zero, List.drop_zero, Bool.true_and] at h1
    rw [pianolaref01_Steps.l0, if_pos (by omega), h1, stepsFrom]
    by_cases h : ls.all (allowsB a s) = true
    · rw [if_pos h, if_pos h, rsteps0 a ls hF lo hi hh n (s + 1) (by omega) (by omega) _ k' (by simp; omega) (by omega), List.append_assoc]
    · rw [if_neg h, if_neg h, rsteps0 a ls hF lo hi hh n (s + 1) (by omega) (by omega) _ k' (by omega) (by omega)]; rfl

theorem steps_same (a : Int) (ls : List (List Int)) (lo hi : Int) (k : Nat) (hk : 20000 ≤ k) : ∃ r n, step_Steps.f a ls lo hi = some (r, n) ∧ pianolaref01_Steps.f k a ls lo hi = some (r, n) ∧ r.length ≤ 1000 := by
  obtain ⟨k, rfl⟩ : ∃ m, k = m + 4 := ⟨k - 4, by omega⟩
  unfold step_Steps.f pianolaref01_Steps.f
  rw [rcheck_f a ls _ (by omega)]
  obtain ⟨c, e⟩ : ∃ c, step_Check.f a ls = some c := ⟨_, rfl⟩
  rw [e, Option.bind_some, Option.bind_some, is_f, Option.bind_some]
  by_cases hc : c = 0
  · subst hc
    have hF : Fine a ls := check_ok e
    rw [if_pos rfl, if_pos rfl]
    have h3 : ¬ ((3 : Int) = 0) := by decide
    have hn : ¬ (false = true) := by decide
    by_cases h1 : 1 ≤ lo
    · by_cases h2 : lo ≤ hi
      · have hi1 : isIn 1 lo hi = true := by unfold isIn; rw [decide_eq_true h1, decide_eq_true h2]; rfl
        rw [hi1, if_pos rfl]
        by_cases h4 : hi ≤ 1000
        · have hb : spanBad lo hi = false := by unfold spanBad; rw [decide_eq_false (by omega : ¬ lo < 1), decide_eq_false (by omega : ¬ hi < lo), decide_eq_false (by omega : ¬ 1000 < hi)]; rfl
          rw [hb, if_neg hn, pianolaref01_Steps.j0, decide_eq_false (show ¬ (hi > 1000) by omega), if_neg hn, pianolaref01_Steps.j1, if_pos rfl, rsteps0 a ls hF lo hi h4 _ lo (by omega) rfl [] _ (by simp; omega) (by omega)]
          have := stepsFrom_length a ls (hi - lo + 1).toNat lo
          exact ⟨_, _, rfl, rfl, by omega⟩
        · have hb : spanBad lo hi = true := by unfold spanBad; rw [decide_eq_true (by omega : 1000 < hi)]; simp
          rw [hb, if_pos rfl, pianolaref01_Steps.j0, decide_eq_true (show (hi > 1000) by omega), if_pos rfl, pianolaref01_Steps.j1, if_neg h3]
          exact ⟨_, _, rfl, rfl, by simp⟩
      · have hi1 : isIn 1 lo hi = false := by unfold isIn; rw [decide_eq_false h2]; simp
        have hb : spanBad lo hi = true := by unfold spanBad; rw [decide_eq_true (by omega : hi < lo)]; simp
        rw [hi1, hb, if_pos rfl, if_neg hn, pianolaref01_Steps.j0, if_pos rfl, pianolaref01_Steps.j1, if_neg h3]
        exact ⟨_, _, rfl, rfl, by simp⟩
    · have hi1 : isIn 1 lo hi = false := by unfold isIn; rw [decide_eq_false h1]; rfl
      have hb : spanBad lo hi = true := by unfold spanBad; rw [decide_eq_true (by omega : lo < 1)]; simp
      rw [hi1, hb, if_pos rfl, if_neg hn, pianolaref01_Steps.j0, if_pos rfl, pianolaref01_Steps.j1, if_neg h3]
      exact ⟨_, _, rfl, rfl, by simp⟩
  · have hn : ¬ (false = true) := by decide
    rw [if_neg hc, if_neg hc, pianolaref01_Steps.j0, if_neg hn, pianolaref01_Steps.j1, if_neg hc]
    exact ⟨_, _, rfl, rfl, by simp⟩

theorem greatest_same (a : Int) (ls : List (List Int)) (lo hi : Int) (k : Nat) (hk : 20000 ≤ k) : ∃ r n, step_Greatest.f a ls lo hi = some (r, n) ∧ pianolaref01_Greatest.f k a ls lo hi = some (r, n) := by
  obtain ⟨r, n, h1, h2, h3⟩ := steps_same a ls lo hi k hk
  unfold step_Greatest.f pianolaref01_Greatest.f
  rw [h1, h2]
  simp only [Option.bind_some]
  by_cases hn : n = 0
  · simp only [if_pos hn]
    by_cases h0 : (r.length : Int) = 0
    · simp only [if_pos h0]; exact ⟨_, _, rfl, rfl⟩
    · simp only [if_neg h0]
      rw [w64 _ (by omega) (by omega), if_pos (by omega), if_pos (by omega)]; exact ⟨_, _, rfl, rfl⟩
  · simp only [if_neg hn]; exact ⟨_, _, rfl, rfl⟩

end Go.Proofs.Ytnbcdbkhpdpjgaa.H
