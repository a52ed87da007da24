/- Written by a program of this session (pp.py) over the loaded program: functions as plain Lean, with their contracts. -/
import Derived.Test.YthddeillkdediaaQA0
import Derived.Test.YthddeillkdediaaQA2
import Derived.Test.YthddeillkdediaaXI
namespace Go.Proofs.Ythddeillkdediaa.H
end Go.Proofs.Ythddeillkdediaa.H
namespace Go.Proofs.Ythddeillkdediaa.QA
open Go.RowKit Go.Proofs.Ythddeillkdediaa.H Go.Proofs.YthddeillkdediaaW.PrintWords Go.Proofs.YthddeillkdediaaW.PrintLast Go.Proofs.YthddeillkdediaaW.PrintMore
attribute [local go_sem] max2_int min2_int max_two min_two max_three min_three max_four min_four   -- for this text's walks alone
set_option linter.unusedVariables false
set_option linter.unusedSimpArgs false

/-! ### pianolaref10_Tails: function 23 -/
def pianolaref10_Tails.l0 : Nat → Int → List Int → Int → Int → Int → Int → Option (Int × Int × Int × Int)
  | 0, _, _, _, _, _, _ => none
  | k + 1, x9, x10, x11, x12, x13, x14 => if x14 < (x10.length : Int) then (if 0 ≤ x14 then (if x14 ≤ x9 then (if x14 ≥ x9 then (pianolaref10_Tails.l0 k x9 x10 (wrap64 (x11 + (rd x10 x14))) (wrap64 (x12 + (rd x10 x14))) (wrap64 (x13 + (rd x10 x14))) (wrap64 (x14 + 1))) else (pianolaref10_Tails.l0 k x9 x10 (wrap64 (x11 + (rd x10 x14))) x12 (wrap64 (x13 + (rd x10 x14))) (wrap64 (x14 + 1)))) else (if x14 ≥ x9 then (pianolaref10_Tails.l0 k x9 x10 x11 (wrap64 (x12 + (rd x10 x14))) (wrap64 (x13 + (rd x10 x14))) (wrap64 (x14 + 1))) else (pianolaref10_Tails.l0 k x9 x10 x11 x12 (wrap64 (x13 + (rd x10 x14))) (wrap64 (x14 + 1))))) else (none)) else (some (x11, x12, x13, 0))
def pianolaref10_Tails.f (k : Nat) (l0 : List Int) (l1 : List Int) : Option (Int × Int × Int × Int) := (pianolaref10_both.f k l0 l1).bind fun t295 => (if t295 = 0 then ((pianolaref10_beats.f k l0 l1).bind fun t296 => ((pianolaref10_choices.f l0 l1).bind fun t297 => (pianolaref10_Tails.l0 k t296 t297 0 0 0 0))) else (some (0, 0, 0, t295)))
theorem pianolaref10_Tails.mono_l : ∀ k, (∀ y0 y1 y2 y3 y4 y5, LeO (pianolaref10_Tails.l0 k y0 y1 y2 y3 y4 y5) (pianolaref10_Tails.l0 (k + 1) y0 y1 y2 y3 y4 y5))
  | 0 => fun _ _ _ _ _ _ r h => by simp [pianolaref10_Tails.l0] at h
  | k + 1 => by
    have ih0 := pianolaref10_Tails.mono_l k
    · intro y0 y1 y2 y3 y4 y5
      unfold pianolaref10_Tails.l0
      repeat' first
      | (with_reducible exact ih0 _ _ _ _ _ _)
      | (with_reducible exact pianolaref10_beats.mono _ _ _)
      | (with_reducible exact pianolaref10_both.mono _ _ _)
      | (with_reducible exact LeO.refl _)
      | (with_reducible exact LeO.none _)
      | (with_reducible refine LeO.ite ?_ ?_)
      | (with_reducible refine LeO.bind ?_ (fun _ => ?_))
      | exact ih0 _ _ _ _ _ _
      | exact pianolaref10_beats.mono _ _ _
      | exact pianolaref10_both.mono _ _ _
      | exact LeO.none _
      | refine LeO.ite ?_ ?_
      | refine LeO.bind ?_ (fun _ => ?_)
theorem pianolaref10_Tails.mono : ∀ a0 a1 k, LeO (pianolaref10_Tails.f k a0 a1) (pianolaref10_Tails.f (k + 1) a0 a1) := by
  intro a0 a1 k
  have ih0 := pianolaref10_Tails.mono_l k
  unfold pianolaref10_Tails.f
  repeat' first
      | (with_reducible exact ih0 _ _ _ _ _ _)
      | (with_reducible exact pianolaref10_beats.mono _ _ _)
      | (with_reducible exact pianolaref10_both.mono _ _ _)
      | (with_reducible exact LeO.refl _)
      | (with_reducible exact LeO.none _)
      | (with_reducible refine LeO.ite ?_ ?_)
      | (with_reducible refine LeO.bind ?_ (fun _ => ?_))
      | exact ih0 _ _ _ _ _ _
      | exact pianolaref10_beats.mono _ _ _
      | exact pianolaref10_both.mono _ _ _
      | exact LeO.none _
      | refine LeO.ite ?_ ?_
      | refine LeO.bind ?_ (fun _ => ?_)
/-! ### pianolaref10_Chance: function 25 -/
def pianolaref10_Chance.l0 : Nat → Int → Int → List Int → Int → Int → Int → Option (Int × Int × Int)
  | 0, _, _, _, _, _, _ => none
  | k + 1, x7, x8, x9, x10, x11, x12 => if x12 < (x9.length : Int) then (if 0 ≤ x12 then ((pianolaref10_far.f x12 x7).bind fun t313 => (if t313 ≥ x8 then (pianolaref10_Chance.l0 k x7 x8 x9 (wrap64 (x10 + (rd x9 x12))) (wrap64 (x11 + (rd x9 x12))) (wrap64 (x12 + 1))) else (pianolaref10_Chance.l0 k x7 x8 x9 x10 (wrap64 (x11 + (rd x9 x12))) (wrap64 (x12 + 1))))) else (none)) else ((pianolaref10_Least.f k x10 x11).bind fun bt315 => (some (bt315.1, bt315.2, 0)))
def pianolaref10_Chance.f (k : Nat) (l0 : List Int) (l1 : List Int) : Option (Int × Int × Int) := (pianolaref10_both.f k l0 l1).bind fun t306 => (if t306 = 0 then ((pianolaref10_beats.f k l0 l1).bind fun t307 => ((pianolaref10_far.f t307 (wrap64 ((l0.length : Int) * (l1.length : Int)))).bind fun t308 => ((pianolaref10_choices.f l0 l1).bind fun t309 => (pianolaref10_Chance.l0 k (wrap64 ((l0.length : Int) * (l1.length : Int))) t308 t309 0 0 0)))) else (some (0, 0, t306)))
theorem pianolaref10_Chance.mono_l : ∀ k, (∀ y0 y1 y2 y3 y4 y5, LeO (pianolaref10_Chance.l0 k y0 y1 y2 y3 y4 y5) (pianolaref10_Chance.l0 (k + 1) y0 y1 y2 y3 y4 y5))
  | 0 => fun _ _ _ _ _ _ r h => by simp [pianolaref10_Chance.l0] at h
  | k + 1 => by
    have ih0 := pianolaref10_Chance.mono_l k
    · intro y0 y1 y2 y3 y4 y5
      unfold pianolaref10_Chance.l0
      repeat' first
      | (with_reducible exact ih0 _ _ _ _ _ _)
      | (with_reducible exact pianolaref10_Least.mono _ _ _)
      | (with_reducible exact pianolaref10_beats.mono _ _ _)
      | (with_reducible exact pianolaref10_both.mono _ _ _)
      | (with_reducible exact LeO.refl _)
      | (with_reducible exact LeO.none _)
      | (with_reducible refine LeO.ite ?_ ?_)
      | (with_reducible refine LeO.bind ?_ (fun _ => ?_))
      | exact ih0 _ _ _ _ _ _
      | exact pianolaref10_Least.mono _ _ _
      | exact pianolaref10_beats.mono _ _ _
      | exact pianolaref10_both.mono _ _ _
      | exact LeO.none _
      | refine LeO.ite ?_ ?_
      | refine LeO.bind ?_ (fun _ => ?_)
theorem pianolaref10_Chance.mono : ∀ a0 a1 k, LeO (pianolaref10_Chance.f k a0 a1) (pianolaref10_Chance.f (k + 1) a0 a1) := by
  intro a0 a1 k
  have ih0 := pianolaref10_Chance.mono_l k
  unfold pianolaref10_Chance.f
  repeat' first
      | (with_reducible exact ih0 _ _ _ _ _ _)
      | (with_reducible exact pianolaref10_Least.mono _ _ _)
      | (with_reducible exact pianolaref10_beats.mono _ _ _)
      | (with_reducible exact pianolaref10_both.mono _ _ _)
      | (with_reducible exact LeO.refl _)
      | (with_reducible exact LeO.none _)
      | (with_reducible refine LeO.ite ?_ ?_)
      | (with_reducible refine LeO.bind ?_ (fun _ => ?_))
      | exact ih0 _ _ _ _ _ _
      | exact pianolaref10_Least.mono _ _ _
      | exact pianolaref10_beats.mono _ _ _
      | exact pianolaref10_both.mono _ _ _
      | exact LeO.none _
      | refine LeO.ite ?_ ?_
      | refine LeO.bind ?_ (fun _ => ?_)
end Go.Proofs.Ythddeillkdediaa.QA
