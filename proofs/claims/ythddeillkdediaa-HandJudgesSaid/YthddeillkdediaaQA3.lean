/- Written by a program of this session (pp.py) over the loaded program: functions as plain Lean, with their contracts. -/
import Derived.Test.YthddeillkdediaaQA0
import Derived.Test.YthddeillkdediaaQA2
namespace Go.Proofs.Ythddeillkdediaa.H
end Go.Proofs.Ythddeillkdediaa.H
namespace Go.Proofs.Ythddeillkdediaa.QA
open Go.RowKit Go.Proofs.Ythddeillkdediaa.H Go.Proofs.YthddeillkdediaaW.PrintWords Go.Proofs.YthddeillkdediaaW.PrintLast Go.Proofs.YthddeillkdediaaW.PrintMore
attribute [local go_sem] max2_int min2_int max_two min_two max_three min_three max_four min_four   -- for this text's walks alone
set_option linter.unusedVariables false
set_option linter.unusedSimpArgs false

/-! ### pianolaref10_Paired: function 27 -/
mutual
def pianolaref10_Paired.j0 : Nat → List Int → List Int → Int → Bool → Option (Int × Int × Int × Int)
  | 0, _, _, _, _ => none
  | k + 1, x0, x1, x7, x34 => if x34 = true then (pianolaref10_Paired.j1 k x0 x1 6) else (pianolaref10_Paired.j1 k x0 x1 x7)
def pianolaref10_Paired.j1 : Nat → List Int → List Int → Int → Option (Int × Int × Int × Int)
  | 0, _, _, _ => none
  | k + 1, x0, x1, x7 => if x7 = 0 then (pianolaref10_Paired.l0 k x0 x1 ([] : List Int) ([] : List Int) 0) else (some (0, 0, 0, x7))
def pianolaref10_Paired.l0 : Nat → List Int → List Int → List Int → List Int → Int → Option (Int × Int × Int × Int)
  | 0, _, _, _, _, _ => none
  | k + 1, x0, x1, x8, x9, x10 => if x10 < (x0.length : Int) then (if 0 ≤ x10 then (if x10 < (x1.length : Int) then (if (rd x0 x10) = (rd x1 x10) then (pianolaref10_Paired.l0 k x0 x1 x8 x9 (wrap64 (x10 + 1))) else ((pianolaref10_far.f (rd x0 x10) (rd x1 x10)).bind fun t323 => (if x8.length < 17592186044416 then ((some (x8 ++ [t323] : List Int)).bind fun y324 => (if (rd x0 x10) > (rd x1 x10) then (if x9.length < 17592186044416 then (pianolaref10_Paired.l0 k x0 x1 y324 (x9 ++ [(-1)]) (wrap64 (x10 + 1))) else (none)) else (if x9.length < 17592186044416 then (pianolaref10_Paired.l0 k x0 x1 y324 (x9 ++ [1]) (wrap64 (x10 + 1))) else (none)))) else (none)))) else (none)) else (none)) else ((pianolaref10_ranks.f k x8).bind fun t335 => (pianolaref10_Paired.l1 k x9 t335 0 0 0))
def pianolaref10_Paired.l1 : Nat → List Int → List Int → Int → Int → Int → Option (Int × Int × Int × Int)
  | 0, _, _, _, _, _ => none
  | k + 1, x9, x12, x13, x14, x15 => if x15 < (x12.length : Int) then (if 0 ≤ x15 then (if x15 < (x9.length : Int) then (pianolaref10_Paired.l1 k x9 x12 (wrap64 (x13 + (wrap64 ((rd x9 x15) * (rd x12 x15))))) (wrap64 (x14 + (rd x12 x15))) (wrap64 (x15 + 1))) else (none)) else (none)) else (if 0 ≤ (wrap64 ((wrap64 (2 * x14)) + 1)) then (if (wrap64 ((wrap64 (2 * x14)) + 1) : Int).toNat ≤ 35184372088832 then ((some (List.replicate (wrap64 ((wrap64 (2 * x14)) + 1) : Int).toNat 0 : List Int)).bind fun y341 => (if 0 ≤ x14 then (if x14 < (y341.length : Int) then (pianolaref10_Paired.l2 k x12 x13 x14 (y341.set (x14 : Int).toNat 1) 0) else (none)) else (none))) else (none)) else (none))
def pianolaref10_Paired.l2 : Nat → List Int → Int → Int → List Int → Int → Option (Int × Int × Int × Int)
  | 0, _, _, _, _, _ => none
  | k + 1, x12, x13, x14, x16, x17 => if x17 < (x12.length : Int) then (if 0 ≤ (wrap64 ((wrap64 (2 * x14)) + 1)) then (if (wrap64 ((wrap64 (2 * x14)) + 1) : Int).toNat ≤ 35184372088832 then (pianolaref10_Paired.l3 k x12 x13 x14 x16 x17 (List.replicate (wrap64 ((wrap64 (2 * x14)) + 1) : Int).toNat 0) 0) else (none)) else (none)) else (pianolaref10_Paired.l4 k x13 x14 x16 0 0 0)
def pianolaref10_Paired.l3 : Nat → List Int → Int → Int → List Int → Int → List Int → Int → Option (Int × Int × Int × Int)
  | 0, _, _, _, _, _, _, _ => none
  | k + 1, x12, x13, x14, x16, x17, x18, x19 => if x19 ≤ (wrap64 (2 * x14)) then (if 0 ≤ x19 then (if x19 < (x16.length : Int) then (if (rd x16 x19) > 0 then (if 0 ≤ x17 then (if x17 < (x12.length : Int) then (if 0 ≤ (wrap64 (x19 + (rd x12 x17))) then (if (wrap64 (x19 + (rd x12 x17))) < (x18.length : Int) then ((some (x18.set ((wrap64 (x19 + (rd x12 x17))) : Int).toNat (wrap64 ((rd x18 (wrap64 (x19 + (rd x12 x17)))) + (rd x16 x19))) : List Int)).bind fun y352 => (if 0 ≤ (wrap64 (x19 - (rd x12 x17))) then (if (wrap64 (x19 - (rd x12 x17))) < (x18.length : Int) then (pianolaref10_Paired.l3 k x12 x13 x14 x16 x17 (y352.set ((wrap64 (x19 - (rd x12 x17))) : Int).toNat (wrap64 ((rd y352 (wrap64 (x19 - (rd x12 x17)))) + (rd x16 x19)))) (wrap64 (x19 + 1))) else (none)) else (none))) else (none)) else (none)) else (none)) else (none)) else (pianolaref10_Paired.l3 k x12 x13 x14 x16 x17 x18 (wrap64 (x19 + 1)))) else (none)) else (none)) else (pianolaref10_Paired.l2 k x12 x13 x14 x18 (wrap64 (x17 + 1)))
def pianolaref10_Paired.l4 : Nat → Int → Int → List Int → Int → Int → Int → Option (Int × Int × Int × Int)
  | 0, _, _, _, _, _, _ => none
  | k + 1, x13, x14, x16, x20, x21, x22 => if x22 ≤ (wrap64 (2 * x14)) then (if 0 ≤ x22 then (if x22 < (x16.length : Int) then ((pianolaref10_far.f x22 x14).bind fun t360 => ((pianolaref10_far.f x13 0).bind fun t361 => (if t360 ≥ t361 then (pianolaref10_Paired.l4 k x13 x14 x16 (wrap64 (x20 + (rd x16 x22))) (wrap64 (x21 + (rd x16 x22))) (wrap64 (x22 + 1))) else (pianolaref10_Paired.l4 k x13 x14 x16 x20 (wrap64 (x21 + (rd x16 x22))) (wrap64 (x22 + 1)))))) else (none)) else (none)) else ((pianolaref10_Least.f k x20 x21).bind fun bt357 => (some (x13, bt357.1, bt357.2, 0)))
end
def pianolaref10_Paired.f (k : Nat) (l0 : List Int) (l1 : List Int) : Option (Int × Int × Int × Int) := (pianolaref10_both.f k l0 l1).bind fun t318 => (if t318 = 0 then (pianolaref10_Paired.j0 k l0 l1 t318 ((l0.length : Int) != (l1.length : Int))) else (pianolaref10_Paired.j0 k l0 l1 t318 false))
theorem pianolaref10_Paired.mono_l : ∀ k, (∀ y0 y1 y2 y3, LeO (pianolaref10_Paired.j0 k y0 y1 y2 y3) (pianolaref10_Paired.j0 (k + 1) y0 y1 y2 y3)) ∧ (∀ y0 y1 y2, LeO (pianolaref10_Paired.j1 k y0 y1 y2) (pianolaref10_Paired.j1 (k + 1) y0 y1 y2)) ∧ (∀ y0 y1 y2 y3 y4, LeO (pianolaref10_Paired.l0 k y0 y1 y2 y3 y4) (pianolaref10_Paired.l0 (k + 1) y0 y1 y2 y3 y4)) ∧ (∀ y0 y1 y2 y3 y4, LeO (pianolaref10_Paired.l1 k y0 y1 y2 y3 y4) (pianolaref10_Paired.l1 (k + 1) y0 y1 y2 y3 y4)) ∧ (∀ y0 y1 y2 y3 y4, LeO (pianolaref10_Paired.l2 k y0 y1 y2 y3 y4) (pianolaref10_Paired.l2 (k + 1) y0 y1 y2 y3 y4)) ∧ (∀ y0 y1 y2 y3 y4 y5 y6, LeO (pianolaref10_Paired.l3 k y0 y1 y2 y3 y4 y5 y6) (pianolaref10_Paired.l3 (k + 1) y0 y1 y2 y3 y4 y5 y6)) ∧ (∀ y0 y1 y2 y3 y4 y5, LeO (pianolaref10_Paired.l4 k y0 y1 y2 y3 y4 y5) (pianolaref10_Paired.l4 (k + 1) y0 y1 y2 y3 y4 y5))
  | 0 => ⟨fun _ _ _ _ r h => by simp [pianolaref10_Paired.j0] at h, fun _ _ _ r h => by simp [pianolaref10_Paired.j1] at h, fun _ _ _ _ _ r h => by simp [pianolaref10_Paired.l0] at h, fun _ _ _ _ _ r h => by simp [pianolaref10_Paired.l1] at h, fun _ _ _ _ _ r h => by simp [pianolaref10_Paired.l2] at h, fun _ _ _ _ _ _ _ r h => by simp [pianolaref10_Paired.l3] at h, fun _ _ _ _ _ _ r h => by simp [pianolaref10_Paired.l4] at h⟩
  | k + 1 => by
    obtain ⟨ih0, ih1, ih2, ih3, ih4, ih5, ih6⟩ := pianolaref10_Paired.mono_l k
    refine ⟨?_, ?_, ?_, ?_, ?_, ?_, ?_⟩
    · intro y0 y1 y2 y3
      unfold pianolaref10_Paired.j0
      repeat' first
      | (with_reducible exact ih0 _ _ _ _)
      | (with_reducible exact ih1 _ _ _)
      | (with_reducible exact ih2 _ _ _ _ _)
      | (with_reducible exact ih3 _ _ _ _ _)
      | (with_reducible exact ih4 _ _ _ _ _)
      | (with_reducible exact ih5 _ _ _ _ _ _ _)
      | (with_reducible exact ih6 _ _ _ _ _ _)
      | (with_reducible exact pianolaref10_Least.mono _ _ _)
      | (with_reducible exact pianolaref10_both.mono _ _ _)
      | (with_reducible exact pianolaref10_ranks.mono _ _)
      | (with_reducible exact LeO.refl _)
      | (with_reducible exact LeO.none _)
      | (with_reducible refine LeO.ite ?_ ?_)
      | (with_reducible refine LeO.bind ?_ (fun _ => ?_))
      | exact ih0 _ _ _ _
      | exact ih1 _ _ _
      | exact ih2 _ _ _ _ _
      | exact ih3 _ _ _ _ _
      | exact ih4 _ _ _ _ _
      | exact ih5 _ _ _ _ _ _ _
      | exact ih6 _ _ _ _ _ _
      | exact pianolaref10_Least.mono _ _ _
      | exact pianolaref10_both.mono _ _ _
      | exact pianolaref10_ranks.mono _ _
      | exact LeO.none _
      | refine LeO.ite ?_ ?_
      | refine LeO.bind ?_ (fun _ => ?_)
    · intro y0 y1 y2
      unfold pianolaref10_Paired.j1
      repeat' first
      | (with_reducible exact ih0 _ _ _ _)
      | (with_reducible exact ih1 _ _ _)
      | (with_reducible exact ih2 _ _ _ _ _)
      | (with_reducible exact ih3 _ _ _ _ _)
      | (with_reducible exact ih4 _ _ _ _ _)
      | (with_reducible exact ih5 _ _ _ _ _ _ _)
      | (with_reducible exact ih6 _ _ _ _ _ _)
      | (with_reducible exact pianolaref10_Least.mono _ _ _)
      | (with_reducible exact pianolaref10_both.mono _ _ _)
      | (with_reducible exact pianolaref10_ranks.mono _ _)
      | (with_reducible exact LeO.refl _)
      | (with_reducible exact LeO.none _)
      | (with_reducible refine LeO.ite ?_ ?_)
      | (with_reducible refine LeO.bind ?_ (fun _ => ?_))
      | exact ih0 _ _ _ _
      | exact ih1 _ _ _
      | exact ih2 _ _ _ _ _
      | exact ih3 _ _ _ _ _
      | exact ih4 _ _ _ _ _
      | exact ih5 _ _ _ _ _ _ _
      | exact ih6 _ _ _ _ _ _
      | exact pianolaref10_Least.mono _ _ _
      | exact pianolaref10_both.mono _ _ _
      | exact pianolaref10_ranks.mono _ _
      | exact LeO.none _
      | refine LeO.ite ?_ ?_
      | refine LeO.bind ?_ (fun _ => ?_)
    · intro y0 y1 y2 y3 y4
      unfold pianolaref10_Paired.l0
      repeat' first
      | (with_reducible exact ih0 _ _ _ _)
      | (with_reducible exact ih1 _ _ _)
      | (with_reducible exact ih2 _ _ _ _ _)
      | (with_reducible exact ih3 _ _ _ _ _)
      | (with_reducible exact ih4 _ _ _ _ _)
      | (with_reducible exact ih5 _ _ _ _ _ _ _)
      | (with_reducible exact ih6 _ _ _ _ _ _)
      | (with_reducible exact pianolaref10_Least.mono _ _ _)
      | (with_reducible exact pianolaref10_both.mono _ _ _)
      | (with_reducible exact pianolaref10_ranks.mono _ _)
      | (with_reducible exact LeO.refl _)
      | (with_reducible exact LeO.none _)
      | (with_reducible refine LeO.ite ?_ ?_)
      | (with_reducible refine LeO.bind ?_ (fun _ => ?_))
      | exact ih0 _ _ _ _
      | exact ih1 _ _ _
      | exact ih2 _ _ _ _ _
      | exact ih3 _ _ _ _ _
      | exact ih4 _ _ _ _ _
      | exact ih5 _ _ _ _ _ _ _
      | exact ih6 _ _ _ _ _ _
      | exact pianolaref10_Least.mono _ _ _
      | exact pianolaref10_both.mono _ _ _
      | exact pianolaref10_ranks.mono _ _
      | exact LeO.none _
      | refine LeO.ite ?_ ?_
      | refine LeO.bind ?_ (fun _ => ?_)
    · intro y0 y1 y2 y3 y4
      unfold pianolaref10_Paired.l1
      repeat' first
      | (with_reducible exact ih0 _ _ _ _)
      | (with_reducible exact ih1 _ _ _)
      | (with_reducible exact ih2 _ _ _ _ _)
      | (with_reducible exact ih3 _ _ _ _ _)
      | (with_reducible exact ih4 _ _ _ _ _)
      | (with_reducible exact ih5 _ _ _ _ _ _ _)
      | (with_reducible exact ih6 _ _ _ _ _ _)
      | (with_reducible exact pianolaref10_Least.mono _ _ _)
      | (with_reducible exact pianolaref10_both.mono _ _ _)
      | (with_reducible exact pianolaref10_ranks.mono _ _)
      | (with_reducible exact LeO.refl _)
      | (with_reducible exact LeO.none _)
      | (with_reducible refine LeO.ite ?_ ?_)
      | (with_reducible refine LeO.bind ?_ (fun _ => ?_))
      | exact ih0 _ _ _ _
      | exact ih1 _ _ _
      | exact ih2 _ _ _ _ _
      | exact ih3 _ _ _ _ _
      | exact ih4 _ _ _ _ _
      | exact ih5 _ _ _ _ _ _ _
      | exact ih6 _ _ _ _ _ _
      | exact pianolaref10_Least.mono _ _ _
      | exact pianolaref10_both.mono _ _ _
      | exact pianolaref10_ranks.mono _ _
      | exact LeO.none _
      | refine LeO.ite ?_ ?_
      | refine LeO.bind ?_ (fun _ => ?_)
    · intro y0 y1 y2 y3 y4
      unfold pianolaref10_Paired.l2
      repeat' first
      | (with_reducible exact ih0 _ _ _ _)
      | (with_reducible exact ih1 _ _ _)
      | (with_reducible exact ih2 _ _ _ _ _)
      | (with_reducible exact ih3 _ _ _ _ _)
      | (with_reducible exact ih4 _ _ _ _ _)
      | (with_reducible exact ih5 _ _ _ _ _ _ _)
      | (with_reducible exact ih6 _ _ _ _ _ _)
      | (with_reducible exact pianolaref10_Least.mono _ _ _)
      | (with_reducible exact pianolaref10_both.mono _ _ _)
      | (with_reducible exact pianolaref10_ranks.mono _ _)
      | (with_reducible exact LeO.refl _)
      | (with_reducible exact LeO.none _)
      | (with_reducible refine LeO.ite ?_ ?_)
      | (with_reducible refine LeO.bind ?_ (fun _ => ?_))
      | exact ih0 _ _ _ _
      | exact ih1 _ _ _
      | exact ih2 _ _ _ _ _
      | exact ih3 _ _ _ _ _
      | exact ih4 _ _ _ _ _
      | exact ih5 _ _ _ _ _ _ _
      | exact ih6 _ _ _ _ _ _
      | exact pianolaref10_Least.mono _ _ _
      | exact pianolaref10_both.mono _ _ _
      | exact pianolaref10_ranks.mono _ _
      | exact LeO.none _
      | refine LeO.ite ?_ ?_
      | refine LeO.bind ?_ (fun _ => ?_)
    · intro y0 y1 y2 y3 y4 y5 y6
      unfold pianolaref10_Paired.l3
      repeat' first
      | (with_reducible exact ih0 _ _ _ _)
      | (with_reducible exact ih1 _ _ _)
      | (with_reducible exact ih2 _ _ _ _ _)
      | (with_reducible exact ih3 _ _ _ _ _)
      | (with_reducible exact ih4 _ _ _ _ _)
      | (with_reducible exact ih5 _ _ _ _ _ _ _)
      | (with_reducible exact ih6 _ _ _ _ _ _)
      | (with_reducible exact pianolaref10_Least.mono _ _ _)
      | (with_reducible exact pianolaref10_both.mono _ _ _)
      | (with_reducible exact pianolaref10_ranks.mono _ _)
      | (with_reducible exact LeO.refl _)
      | (with_reducible exact LeO.none _)
      | (with_reducible refine LeO.ite ?_ ?_)
      | (with_reducible refine LeO.bind ?_ (fun _ => ?_))
      | exact ih0 _ _ _ _
      | exact ih1 _ _ _
      | exact ih2 _ _ _ _ _
      | exact ih3 _ _ _ _ _
      | exact ih4 _ _ _ _ _
      | exact ih5 _ _ _ _ _ _ _
      | exact ih6 _ _ _ _ _ _
      | exact pianolaref10_Least.mono _ _ _
      | exact pianolaref10_both.mono _ _ _
      | exact pianolaref10_ranks.mono _ _
      | exact LeO.none _
      | refine LeO.ite ?_ ?_
      | refine LeO.bind ?_ (fun _ => ?_)
    · intro y0 y1 y2 y3 y4 y5
      unfold pianolaref10_Paired.l4
      repeat' first
      | (with_reducible exact ih0 _ _ _ _)
      | (with_reducible exact ih1 _ _ _)
      | (with_reducible exact ih2 _ _ _ _ _)
      | (with_reducible exact ih3 _ _ _ _ _)
      | (with_reducible exact ih4 _ _ _ _ _)
      | (with_reducible exact ih5 _ _ _ _ _ _ _)
      | (with_reducible exact ih6 _ _ _ _ _ _)
      | (with_reducible exact pianolaref10_Least.mono _ _ _)
      | (with_reducible exact pianolaref10_both.mono _ _ _)
      | (with_reducible exact pianolaref10_ranks.mono _ _)
      | (with_reducible exact LeO.refl _)
      | (with_reducible exact LeO.none _)
      | (with_reducible refine LeO.ite ?_ ?_)
      | (with_reducible refine LeO.bind ?_ (fun _ => ?_))
      | exact ih0 _ _ _ _
      | exact ih1 _ _ _
      | exact ih2 _ _ _ _ _
      | exact ih3 _ _ _ _ _
      | exact ih4 _ _ _ _ _
      | exact ih5 _ _ _ _ _ _ _
      | exact ih6 _ _ _ _ _ _
      | exact pianolaref10_Least.mono _ _ _
      | exact pianolaref10_both.mono _ _ _
      | exact pianolaref10_ranks.mono _ _
      | exact LeO.none _
      | refine LeO.ite ?_ ?_
      | refine LeO.bind ?_ (fun _ => ?_)
theorem pianolaref10_Paired.mono : ∀ a0 a1 k, LeO (pianolaref10_Paired.f k a0 a1) (pianolaref10_Paired.f (k + 1) a0 a1) := by
  intro a0 a1 k
  obtain ⟨ih0, ih1, ih2, ih3, ih4, ih5, ih6⟩ := pianolaref10_Paired.mono_l k
  unfold pianolaref10_Paired.f
  repeat' first
      | (with_reducible exact ih0 _ _ _ _)
      | (with_reducible exact ih1 _ _ _)
      | (with_reducible exact ih2 _ _ _ _ _)
      | (with_reducible exact ih3 _ _ _ _ _)
      | (with_reducible exact ih4 _ _ _ _ _)
      | (with_reducible exact ih5 _ _ _ _ _ _ _)
      | (with_reducible exact ih6 _ _ _ _ _ _)
      | (with_reducible exact pianolaref10_Least.mono _ _ _)
      | (with_reducible exact pianolaref10_both.mono _ _ _)
      | (with_reducible exact pianolaref10_ranks.mono _ _)
      | (with_reducible exact LeO.refl _)
      | (with_reducible exact LeO.none _)
      | (with_reducible refine LeO.ite ?_ ?_)
      | (with_reducible refine LeO.bind ?_ (fun _ => ?_))
      | exact ih0 _ _ _ _
      | exact ih1 _ _ _
      | exact ih2 _ _ _ _ _
      | exact ih3 _ _ _ _ _
      | exact ih4 _ _ _ _ _
      | exact ih5 _ _ _ _ _ _ _
      | exact ih6 _ _ _ _ _ _
      | exact pianolaref10_Least.mono _ _ _
      | exact pianolaref10_both.mono _ _ _
      | exact pianolaref10_ranks.mono _ _
      | exact LeO.none _
      | refine LeO.ite ?_ ?_
      | refine LeO.bind ?_ (fun _ => ?_)
end Go.Proofs.Ythddeillkdediaa.QA
