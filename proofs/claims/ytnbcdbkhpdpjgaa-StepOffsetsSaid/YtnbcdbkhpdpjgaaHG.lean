/- Plain laws of StepOffsets; the walk of given. -/
import Derived.Test.YtnbcdbkhpdpjgaaHF
import Derived.Test.YtnbcdbkhpdpjgaaQC0
import Derived.Test.YtnbcdbkhpdpjgaaQA7
namespace Go.Proofs.Ytnbcdbkhpdpjgaa.H
open Go.RowKit Go.Proofs.YtnbcdbkhpdpjgaaW.PrintWords Go.Proofs.YtnbcdbkhpdpjgaaW.PrintLast Go.Proofs.YtnbcdbkhpdpjgaaW.PrintMore
open Go.Shelf Go.Proofs.Ytnbcdbkhpdpjgaa.QA
set_option linter.unusedVariables false
set_option linter.unusedSimpArgs false

theorem offsOf_length (off s : Int) (l : List Int) (hs : s ≤ 1000) (h0 : 0 < s) : (offsOf off s l).length ≤ 1000 := by
  have := offsTo_length (arcsOf off s l) s s.toNat
  unfold offsOf; omega

theorem offsets_same (a : Int) (ls : List (List Int)) (a1 a2 : Int) : ∃ r n, step_Offsets.f a ls a1 a2 = some (r, n) ∧ (∀ k, 3000 ≤ k → pianolaref01_Offsets.f k a ls a1 a2 = some (r, n)) ∧ r.length ≤ 1000 := by
  rcases asked_cases a ls a1 a2 3000 (by omega) with ⟨l, ⟨h1, h2, h3, h4, h5, h6, h7, h8⟩, e1, e2⟩ | ⟨e, he, e1, e2⟩
  · refine ⟨offsOf a a2 l, 0, ?_, ?_, offsOf_length a a2 l h2.2 (by omega)⟩
    · unfold step_Offsets.f
      rw [e1, Option.bind_some]
      rw [if_pos rfl, if_pos ⟨⟨by omega, by omega⟩, ⟨by omega, by omega⟩, h8, by simp only; omega⟩]
    · intro k hk
      unfold pianolaref01_Offsets.f
      rcases asked_cases a ls a1 a2 k (by omega) with ⟨l', hA', e1', e2'⟩ | ⟨e', he', e1', e2'⟩
      · rw [e2', Option.bind_some, if_pos rfl, if_pos h3.1, if_pos h3.2, ← h5, roffs_f a ls l a2 (by omega) h2.2 ⟨h1.1, by omega⟩ h8 h7 k (by omega)]; rfl
      · rw [e1] at e1'; exact absurd (Prod.mk.inj (Option.some.inj e1')).2.symm he'
  · refine ⟨[], e, ?_, ?_, by simp⟩
    · unfold step_Offsets.f
      rw [e1, Option.bind_some]
      rw [if_neg he]
    · intro k hk
      unfold pianolaref01_Offsets.f
      rcases asked_cases a ls a1 a2 k (by omega) with ⟨l', hA', e1', e2'⟩ | ⟨e', he', e1', e2'⟩
      · rw [e1] at e1'; exact absurd (Prod.mk.inj (Option.some.inj e1')).2 he
      · rw [e1] at e1'
        obtain rfl := (Prod.mk.inj (Option.some.inj e1')).2
        rw [e2', Option.bind_some, if_neg he]

def rowAt (off s o p : Int) : S46 := ⟨lowRow off p s o, highRow off p s o⟩

theorem srows (off : Int) (ls : List (List Int)) (l : List Int) (s o : Int) (hs : 0 < s) (hs2 : s ≤ 1000) (h1 : 0 ≤ off ∧ off ≤ 1000) (h2 : ∀ p ∈ l, 0 ≤ p ∧ p ≤ 1000000) (h3 : 0 ≤ o ∧ o ≤ 1000) (hl : l.length ≤ 12) :
    ∀ n (i : Nat), l.length = i + n → ∀ k, n + 1 ≤ k → ∀ acc : List S46, acc.length ≤ i → step_Rows.l0 k s o acc l (l.length : Int) (i : Int) off ls = if (l.drop i).all (fitB off s o) = true then some (acc ++ (l.drop i).map (rowAt off s o), 0) else some ([], 8)
  | 0, i, hi, k + 1, hk, acc, ha => by
    rw [step_Rows.l0, if_neg (by omega), List.drop_eq_nil_of_le (by omega)]; simp
  | n + 1, i, hi, k + 1, hk, acc, ha => by
    have hlt : i < l.length := by omega
    have hp := h2 _ (List.getElem_mem hlt)
    have hb := abs_ediv (o + off - l[i]) s 2000000000 hs (by omega) (by omega)
    rw [step_Rows.l0, if_pos (by omega), if_pos (by omega), if_pos (by omega), rd_nat _ _ hlt, w64 (o + off) (by omega) (by omega), w64 (o + off - l[i]) (by omega) (by omega), w64 (l[i] - o) (by omega) (by omega), w64 (l[i] - o + off) (by omega) (by omega), sfloor _ _ hs (by omega) (by omega) (by omega), Option.bind_some, sfloor _ _ hs (by omega) (by omega) (by omega), Option.bind_some,
      w64 (-((o + off - l[i]) / s)) (by omega) (by omega), List.drop_eq_getElem_cons hlt, List.all_cons, List.map_cons, next64 i l.length hlt (by omega)]
    rw [show -((o + off - l[i]) / s) = lowRow off l[i] s o from rfl, show (l[i] - o + off) / s = highRow off l[i] s o from rfl]
    by_cases h : lowRow off l[i] s o ≤ highRow off l[i] s o
    · have hf : fitB off s o l[i] = true := decide_eq_true h
      rw [if_neg (show ¬ (lowRow off l[i] s o > highRow off l[i] s o) by omega), if_pos (by omega), srows off ls l s o hs hs2 h1 h2 h3 hl n (i + 1) (by omega) k (by omega) _ (by simp; omega), hf, Bool.true_and, List.append_assoc]
      rfl
    · have hf : fitB off s o l[i] = false := decide_eq_false h
      rw [if_pos (show (lowRow off l[i] s o > highRow off l[i] s o) by omega), hf, Bool.false_and, if_neg (by simp)]

theorem rrows_l (off : Int) (ls : List (List Int)) (l : List Int) (a1 s o : Int) (hs : 0 < s) (hs2 : s ≤ 1000) (h1 : 0 ≤ off ∧ off ≤ 1000) (h2 : ∀ p ∈ l, 0 ≤ p ∧ p ≤ 1000000) (h3 : 0 ≤ o ∧ o ≤ 1000) (hl : l.length ≤ 12) (ha : 0 ≤ a1 ∧ a1 < ls.length) (he : l = rd_L1 ls a1) :
    ∀ n (i : Nat), l.length = i + n → ∀ k, n + 1 ≤ k → ∀ acc : List S46, acc.length ≤ i → pianolaref01_Rows.l0 k a1 s o acc (i : Int) off ls = some (acc ++ (l.drop i).map (rowAt off s o), 0)
  | 0, i, hi, k + 1, hk, acc, hacc => by
    rw [pianolaref01_Rows.l0, if_pos ha.1, if_pos ha.2, ← he, if_neg (by omega), List.drop_eq_nil_of_le (by omega)]; simp
  | n + 1, i, hi, k + 1, hk, acc, hacc => by
    have hlt : i < l.length := by omega
    have hp := h2 _ (List.getElem_mem hlt)
    rw [pianolaref01_Rows.l0, if_pos ha.1, if_pos ha.2, ← he, if_pos (by omega), if_pos (by omega), rd_nat _ _ hlt, rrows off ls _ s o hs h1 hp ⟨by omega, by omega⟩, Option.bind_some, if_pos (by omega), next64 i l.length hlt (by omega),
      rrows_l off ls l a1 s o hs hs2 h1 h2 h3 hl ha he n (i + 1) (by omega) k (by omega) _ (by simp; omega), List.drop_eq_getElem_cons hlt, List.map_cons, List.append_assoc]
    rfl

theorem rows_same (a : Int) (ls : List (List Int)) (a1 a2 a3 : Int) (k : Nat) (hk : 3000 ≤ k) : ∃ r n, step_Rows.f k a ls a1 a2 a3 = some (r, n) ∧ pianolaref01_Rows.f k a ls a1 a2 a3 = some (r, n) ∧ r.length ≤ 12 := by
  obtain ⟨k, rfl⟩ : ∃ m, k = m + 4 := ⟨k - 4, by omega⟩
  unfold step_Rows.f pianolaref01_Rows.f
  rcases asked_cases a ls a1 a2 (k + 4) (by omega) with ⟨l, ⟨h1, h2, h3, h4, h5, h6, h7, h8⟩, e1, e2⟩ | ⟨e, he, e1, e2⟩
  · rw [e1, e2, Option.bind_some, Option.bind_some, is_f, between_f, w64 _ (by omega) (by omega)]
    simp only [Option.bind_some, if_true]
    by_cases hi : isIn 0 a3 (a2 - 1) = true
    · rw [hi]
      have h9 : 0 ≤ a3 ∧ a3 ≤ a2 - 1 := by unfold isIn at hi; simpa using hi
      have hS := srows a ls l a2 a3 (by omega) h2.2 ⟨h1.1, by omega⟩ h8 ⟨by omega, by omega⟩ h7 l.length 0 (by omega) (k + 4) (by omega) [] (by simp)
      have hR := fun kk hk => rrows_l a ls l a1 a2 a3 (by omega) h2.2 ⟨h1.1, by omega⟩ h8 ⟨by omega, by omega⟩ h7 h3 h5 l.length 0 (by omega) kk hk [] (by simp)
      have hF := rfits_f a ls l a2 a3 (by omega) ⟨h1.1, by omega⟩ h8 ⟨by omega, by omega⟩ h7 (k + 2) (by omega)
      simp only [List.drop_zero, List.nil_append, Int.natCast_zero] at hS hR
      have hn : ¬ ((!true) = true) := by decide
      by_cases hf : l.all (fitB a a2 a3) = true
      · rw [hf] at hF
        rw [hf, if_pos rfl] at hS
        rw [if_pos rfl, hS, pianolaref01_Rows.j0, if_neg hn, pianolaref01_Rows.j1, if_pos rfl, if_pos h3.1, if_pos h3.2, ← h5, hF, Option.bind_some, pianolaref01_Rows.j2, if_neg hn, pianolaref01_Rows.j3, if_pos rfl, hR k (by omega)]
        exact ⟨_, _, rfl, rfl, by simpa using h7⟩
      · have hfb := Bool.eq_false_iff.2 hf
        rw [hfb] at hF
        rw [if_neg hf] at hS
        rw [if_pos rfl, hS, pianolaref01_Rows.j0, if_neg hn, pianolaref01_Rows.j1, if_pos rfl, if_pos h3.1, if_pos h3.2, ← h5, hF, Option.bind_some, pianolaref01_Rows.j2, if_pos (show (!false) = true from rfl), pianolaref01_Rows.j3, if_neg (show ¬ ((8 : Int) = 0) by decide)]
        exact ⟨_, _, rfl, rfl, by simp⟩
    · have hn : ¬ (false = true) := by decide
      have h3 : ¬ ((3 : Int) = 0) := by decide
      rw [if_neg hi, Bool.eq_false_iff.2 hi, pianolaref01_Rows.j0, if_pos (show (!false) = true from rfl), pianolaref01_Rows.j1, if_neg h3, pianolaref01_Rows.j2, if_neg hn, pianolaref01_Rows.j3, if_neg h3]
      exact ⟨_, _, rfl, rfl, by simp⟩
  · rw [e1, e2, Option.bind_some, Option.bind_some]
    simp only [if_neg he]
    have hn : ¬ (false = true) := by decide
    rw [pianolaref01_Rows.j0, if_neg hn, pianolaref01_Rows.j1, if_neg he, pianolaref01_Rows.j2, if_neg hn, pianolaref01_Rows.j3, if_neg he]
    exact ⟨_, _, rfl, rfl, by simp⟩

/-- given hands on a sheet that reads the same. -/
theorem given_calls (a : Int) (A : Option Addr) (c : Nat) (l : List (List Int)) (w : World) (hr : Kd.C (Kd.slice 3 (Kd.int .i64)) w A l.length l) (hc : l.length ≤ c) :
    Calls Try.prog 20 #[.agg #[.int .i64 a, .slice A l.length c]] w fun e w' => ∃ A' c', e = .returned (.agg #[.int .i64 a, .slice A' l.length c']) ∧ l.length ≤ c' ∧ Kd.C (Kd.slice 3 (Kd.int .i64)) w' A' l.length l ∧ Below w.heap.size w w' := by
  refine (pianolalaw01_given.calls a (fun k => k < w.heap.size) A c l a l w (V_of_C hr hc (Below.refl _ _)) rfl).mono ?_
  rintro e w' ⟨v, rfl, hV, hb⟩
  obtain ⟨A', c', rfl, hc', hF⟩ := hV
  exact ⟨A', c', rfl, hc', Kd.F_now hF, hb⟩

end Go.Proofs.Ytnbcdbkhpdpjgaa.H
