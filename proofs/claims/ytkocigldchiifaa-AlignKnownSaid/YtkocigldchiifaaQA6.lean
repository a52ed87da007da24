/- Written by a program of this session (pp.py) over the loaded program: functions as plain Lean, with their contracts. -/
import Derived.Test.YtkocigldchiifaaQA0
import Derived.Test.YtkocigldchiifaaQA4
namespace Go.Proofs.Ytkocigldchiifaa.H
end Go.Proofs.Ytkocigldchiifaa.H
namespace Go.Proofs.Ytkocigldchiifaa.QA
open Go.RowKit Go.Proofs.Ytkocigldchiifaa.H Go.Proofs.YtkocigldchiifaaW.PrintWords Go.Proofs.YtkocigldchiifaaW.PrintLast Go.Proofs.YtkocigldchiifaaW.PrintMore
attribute [local go_sem] max2_int min2_int max_two min_two max_three min_three max_four min_four   -- for this text's walks alone
set_option linter.unusedVariables false
set_option linter.unusedSimpArgs false

/-! ### pianolaref07_Verify: function 28 -/
mutual
def pianolaref07_Verify.l0 : Nat → List (S79) → List (S79) → Int → List (S35) → Int → Option (Int)
  | 0, _, _, _, _, _ => none
  | k + 1, x0, x1, x2, x3, x10 => if x10 < (x3.length : Int) then (if 0 ≤ x10 then ((pianolaref07_paired.f x0 x1 ((rd_T35 x3 x10).f0) ((rd_T35 x3 x10).f1)).bind fun t271 => (if t271 = true then (if x10 > 0 then (if 0 ≤ (wrap64 (x10 - 1)) then (if (wrap64 (x10 - 1)) < (x3.length : Int) then ((pianolaref07_follows.f ((rd_T35 x3 (wrap64 (x10 - 1))).f0) ((rd_T35 x3 (wrap64 (x10 - 1))).f1) ((rd_T35 x3 x10).f0) ((rd_T35 x3 x10).f1)).bind fun t273 => (pianolaref07_Verify.j1 k x0 x1 x2 x3 x10 (!t273) ((rd_T35 x3 x10).f0) ((rd_T35 x3 x10).f1))) else (none)) else (none)) else (pianolaref07_Verify.j1 k x0 x1 x2 x3 x10 false ((rd_T35 x3 x10).f0) ((rd_T35 x3 x10).f1))) else (some 8))) else (none)) else (if 0 < (x3.length : Int) then ((pianolaref07_begins.f x1 ((rd_T35 x3 0).f0) ((rd_T35 x3 0).f1)).bind fun t278 => (if t278 = true then (if 0 ≤ (wrap64 ((x3.length : Int) - 1)) then (if (wrap64 ((x3.length : Int) - 1)) < (x3.length : Int) then ((pianolaref07_ends.f x0 ((rd_T35 x3 (wrap64 ((x3.length : Int) - 1))).f0) ((rd_T35 x3 (wrap64 ((x3.length : Int) - 1))).f1)).bind fun t280 => (if t280 = true then (some 0) else (some 7))) else (none)) else (none)) else (some 7))) else (none))
def pianolaref07_Verify.j1 : Nat → List (S79) → List (S79) → Int → List (S35) → Int → Bool → Int → Int → Option (Int)
  | 0, _, _, _, _, _, _, _, _ => none
  | k + 1, x0, x1, x2, x3, x10, x47, x271000, x271001 => if x47 = true then (some 13) else (if 0 ≤ x271000 then (if x271000 < (x0.length : Int) then (if 0 ≤ x271001 then (if x271001 < (x1.length : Int) then ((pianolaref07_distance.f ((rd_T79 x0 x271000).f0) ((rd_T79 x0 x271000).f1) ((rd_T79 x0 x271000).f2) ((rd_T79 x1 x271001).f0) ((rd_T79 x1 x271001).f1) ((rd_T79 x1 x271001).f2)).bind fun t276 => (if t276 ≤ x2 then (some 14) else (pianolaref07_Verify.l0 k x0 x1 x2 x3 (wrap64 (x10 + 1))))) else (none)) else (none)) else (none)) else (none))
end
def pianolaref07_Verify.f (k : Nat) (l0 : List (S79)) (l1 : List (S79)) (a2 : Int) (l3 : List (S35)) : Option (Int) := (pianolaref07_Check.f k l0 l1).bind fun t268 => (if t268 = 0 then (if (l3.length : Int) = 0 then (some 4) else (pianolaref07_Verify.l0 k l0 l1 a2 l3 0)) else (some t268))
theorem pianolaref07_Verify.mono_l : ∀ k, (∀ y0 y1 y2 y3 y4, LeO (pianolaref07_Verify.l0 k y0 y1 y2 y3 y4) (pianolaref07_Verify.l0 (k + 1) y0 y1 y2 y3 y4)) ∧ (∀ y0 y1 y2 y3 y4 y5 y6 y7, LeO (pianolaref07_Verify.j1 k y0 y1 y2 y3 y4 y5 y6 y7) (pianolaref07_Verify.j1 (k + 1) y0 y1 y2 y3 y4 y5 y6 y7))
  | 0 => ⟨fun _ _ _ _ _ r h => by simp [pianolaref07_Verify.l0] at h, fun _ _ _ _ _ _ _ _ r h => by simp [pianolaref07_Verify.j1] at h⟩
  | k + 1 => by
    obtain ⟨ih0, ih1⟩ := pianolaref07_Verify.mono_l k
    refine ⟨?_, ?_⟩
    · intro y0 y1 y2 y3 y4
      unfold pianolaref07_Verify.l0
      repeat' first
      | (with_reducible exact ih0 _ _ _ _ _)
      | (with_reducible exact ih1 _ _ _ _ _ _ _ _)
      | (with_reducible exact pianolaref07_Check.mono _ _ _)
      | (with_reducible exact LeO.refl _)
      | (with_reducible exact LeO.none _)
      | (with_reducible refine LeO.ite ?_ ?_)
      | (with_reducible refine LeO.bind ?_ (fun _ => ?_))
      | exact ih0 _ _ _ _ _
      | exact ih1 _ _ _ _ _ _ _ _
      | exact pianolaref07_Check.mono _ _ _
      | exact LeO.none _
      | refine LeO.ite ?_ ?_
      | refine LeO.bind ?_ (fun _ => ?_)
    · intro y0 y1 y2 y3 y4 y5 y6 y7
      unfold pianolaref07_Verify.j1
      repeat' first
      | (with_reducible exact ih0 _ _ _ _ _)
      | (with_reducible exact ih1 _ _ _ _ _ _ _ _)
      | (with_reducible exact pianolaref07_Check.mono _ _ _)
      | (with_reducible exact LeO.refl _)
      | (with_reducible exact LeO.none _)
      | (with_reducible refine LeO.ite ?_ ?_)
      | (with_reducible refine LeO.bind ?_ (fun _ => ?_))
      | exact ih0 _ _ _ _ _
      | exact ih1 _ _ _ _ _ _ _ _
      | exact pianolaref07_Check.mono _ _ _
      | exact LeO.none _
      | refine LeO.ite ?_ ?_
      | refine LeO.bind ?_ (fun _ => ?_)
theorem pianolaref07_Verify.mono : ∀ a0 a1 a2 a3 k, LeO (pianolaref07_Verify.f k a0 a1 a2 a3) (pianolaref07_Verify.f (k + 1) a0 a1 a2 a3) := by
  intro a0 a1 a2 a3 k
  obtain ⟨ih0, ih1⟩ := pianolaref07_Verify.mono_l k
  unfold pianolaref07_Verify.f
  repeat' first
      | (with_reducible exact ih0 _ _ _ _ _)
      | (with_reducible exact ih1 _ _ _ _ _ _ _ _)
      | (with_reducible exact pianolaref07_Check.mono _ _ _)
      | (with_reducible exact LeO.refl _)
      | (with_reducible exact LeO.none _)
      | (with_reducible refine LeO.ite ?_ ?_)
      | (with_reducible refine LeO.bind ?_ (fun _ => ?_))
      | exact ih0 _ _ _ _ _
      | exact ih1 _ _ _ _ _ _ _ _
      | exact pianolaref07_Check.mono _ _ _
      | exact LeO.none _
      | refine LeO.ite ?_ ?_
      | refine LeO.bind ?_ (fun _ => ?_)
/-! ### pianolalaw07_far: function 39 -/
def pianolalaw07_far.f (a0_0 : Int) (a0_1 : Int) (a0_2 : Int) (a1_0 : Int) (a1_1 : Int) (a1_2 : Int) : Option (Int) := if a0_0 = a1_0 then (some (wrap64 ((mx (wrap64 (a0_1 - a1_1)) (wrap64 (-(wrap64 (a0_1 - a1_1))))) + (mx (wrap64 (a0_2 - a1_2)) (wrap64 (-(wrap64 (a0_2 - a1_2)))))))) else (some 1000000)
end Go.Proofs.Ytkocigldchiifaa.QA
