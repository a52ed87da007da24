/- A step is allowed just if there is an offset (the same three lemmas as in HI, without what HI imports: never import both). -/
import Derived.Test.YtnbcdbkhpdpjgaaHF
import Derived.Test.YtnbcdbkhpdpjgaaH5
namespace Go.Proofs.Ytnbcdbkhpdpjgaa.H
open Go.RowKit Go.Proofs.YtnbcdbkhpdpjgaaW.PrintWords Go.Proofs.YtnbcdbkhpdpjgaaW.PrintLast Go.Proofs.YtnbcdbkhpdpjgaaW.PrintMore
open Go.Proofs.Ytnbcdbkhpdpjgaa.QA
set_option linter.unusedVariables false
set_option linter.unusedSimpArgs false

theorem list_min {α : Type} (f : α → Int) : ∀ l : List α, l ≠ [] → ∃ a ∈ l, ∀ b ∈ l, f a ≤ f b
  | [], h => absurd rfl h
  | [a], _ => ⟨a, by simp, fun b hb => by rw [List.mem_singleton.1 hb]; exact Int.le_refl _⟩
  | a :: c :: l, _ => by
    obtain ⟨m, hm, hle⟩ := list_min f (c :: l) (by simp)
    by_cases h : f a ≤ f m
    · refine ⟨a, by simp, fun b hb => ?_⟩
      rcases List.mem_cons.1 hb with rfl | hb
      · exact Int.le_refl _
      · exact Int.le_trans h (hle b hb)
    · refine ⟨m, List.mem_cons_of_mem _ hm, fun b hb => ?_⟩
      rcases List.mem_cons.1 hb with rfl | hb
      · omega
      · exact hle b hb

theorem arcsOf_ne (off s : Int) (l : List Int) (h : l ≠ []) : arcsOf off s l ≠ [] := by
  intro e
  have h1 := arcs_any (fun _ => true) off s l []
  unfold arcsOf at e
  rw [e] at h1
  cases l with
  | nil => exact h rfl
  | cons a l => simp at h1

/-- A step is allowed just if there is an offset. -/
theorem allows_offs (off s : Int) (l : List Int) (hs : 0 < s) (hl : l ≠ []) : allowsB off s l = decide ((offsOf off s l).length > 0) := by
  have hin : ∀ b ∈ arcsOf off s l, 0 ≤ b.f0 ∧ b.f0 < s := arcsOf_in off s (by omega) l [] (by simp)
  have hne := arcsOf_ne off s l hl
  unfold allowsB offsOf
  generalize arcsOf off s l = arcs at *
  rw [Bool.eq_iff_iff]
  constructor
  · intro h
    obtain ⟨a, ha, hb⟩ := List.any_eq_true.1 h
    obtain ⟨h0, h1⟩ := hin a ha
    refine decide_eq_true (List.length_pos_of_mem (a := a.f0) ?_)
    unfold offsTo
    refine List.mem_filter.2 ⟨List.mem_map.2 ⟨a.f0.toNat, List.mem_range.2 (by omega), by omega⟩, ?_⟩
    exact hb
  · intro h
    have h := of_decide_eq_true h
    obtain ⟨o, ho⟩ := List.exists_mem_of_length_pos h
    unfold offsTo at ho
    obtain ⟨ho1, ho2⟩ := List.mem_filter.1 ho
    unfold offsB at ho2
    have hall : ∀ b ∈ arcs, (o - b.f0) % s < b.f1 := by
      intro b hb
      have h3 : (arcs.any fun b => !hasB s o b) = false := by simpa using ho2
      have h4 := List.any_eq_false.1 h3 b hb
      unfold hasB at h4
      simpa using h4
    obtain ⟨a, ha, hmin⟩ := list_min (fun b : S98 => (o - b.f0) % s) arcs hne
    refine List.any_eq_true.2 ⟨a, ha, ?_⟩
    have h5 : (arcs.any fun b => !hasB s a.f0 b) = false := by
      refine List.any_eq_false.2 fun b hb => ?_
      have h6 := hmin b hb
      have h7 := hall b hb
      have h8 := Int.emod_nonneg (o - a.f0) (show s ≠ 0 by omega)
      have h9 := Int.emod_lt_of_pos (o - b.f0) hs
      have e : (a.f0 - b.f0) % s = (o - b.f0) % s - (o - a.f0) % s := by
        rw [show a.f0 - b.f0 = (o - b.f0) - (o - a.f0) by omega, Int.sub_emod]
        exact Int.emod_eq_of_lt (by omega) (by omega)
      unfold hasB
      rw [e, decide_eq_true (by omega)]
      simp
    rw [h5]; rfl

end Go.Proofs.Ytnbcdbkhpdpjgaa.H
