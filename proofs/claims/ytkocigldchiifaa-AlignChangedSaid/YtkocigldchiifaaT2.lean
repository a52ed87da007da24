/- Takes are rolls. -/
import Derived.Test.YtkocigldchiifaaT1
import Derived.Test.YtkocigldchiifaaP5
import Derived.Test.YtkocigldchiifaaH7
namespace Go.Proofs.Ytkocigldchiifaa.H
open Go.RowKit Go.Proofs.YtkocigldchiifaaW.PrintWords Go.Proofs.YtkocigldchiifaaW.PrintLast Go.Proofs.YtkocigldchiifaaW.PrintMore
open Go.Shelf Go.Proofs.Ytkocigldchiifaa.QA
set_option linter.unusedVariables false
set_option linter.unusedSimpArgs false

theorem made_len (l : List S59) : 1 ≤ (madeF l).length ∧ (madeF l).length ≤ 5 := by
 unfold madeF
 split
 · simp
 · rename_i h
   have := List.length_pos_iff.2 h
   simp
   omega
theorem made_good {l : List S59} (hl : ∀ x ∈ l, Byte3 x) : ∀ x ∈ madeF l, goodB x = true := by
 have hone : ∀ x : S59, (1 ≤ x.f0 ∧ x.f0 ≤ 88) → (0 ≤ x.f1 ∧ x.f1 ≤ 1000) → (0 ≤ x.f2 ∧ x.f2 ≤ 1000) → goodB x = true := fun x h1 h2 h3 => by
  unfold goodB isIn
  simp only [Bool.and_eq_true, decide_eq_true_iff]
  exact ⟨h1, h2, h3⟩
 intro x hx
 unfold madeF at hx
 split at hx
 · rw [List.mem_singleton.1 hx]; exact hone _ (by decide) (by decide) (by decide)
 · obtain ⟨y, hy, rfl⟩ := List.mem_map.1 hx
   have hb := hl y (List.mem_of_mem_take hy)
   unfold Byte3 isByte at hb
   refine hone _ ?_ ?_ ?_ <;> (unfold madeOne; dsimp only; omega)
theorem chk_ok {l : List S59} (h1 : 1 ≤ l.length ∧ l.length ≤ 30) (h2 : ∀ x ∈ l, goodB x = true) : chk l = 0 := by
 unfold chk
 rw [if_neg (by omega), if_neg (by omega), if_neg]
 intro h
 obtain ⟨x, hx, h3⟩ := List.any_eq_true.1 h
 rw [h2 x hx] at h3
 cases h3
theorem check_ok {a b : List S59} (hR : Rolls a b) : align_Check.f a b = some 0 := by
 unfold align_Check.f
 rw [chk_ok hR.ha hR.ga, chk_ok hR.hb hR.gb]
 rfl
theorem made_rolls {l m : List S59} (hl : ∀ x ∈ l, Byte3 x) (hm : ∀ x ∈ m, Byte3 x) : Rolls (madeF l) (madeF m) :=
 ⟨by have := made_len l; omega, by have := made_len m; omega, made_good hl, made_good hm⟩
theorem gap_f {a b : List S59} (hR : Rolls a b) : align_Gap.f a b = some (gapI a b, 0) := by
 unfold align_Gap.f
 rw [check_ok hR]
 rfl

end Go.Proofs.Ytkocigldchiifaa.H
