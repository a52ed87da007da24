/- Written by a program of this session (pp.py) over the loaded program: functions as plain Lean, with their contracts. -/
import Derived.Test.YtnbcdbkhpdpjgaaQA0
import Derived.Test.YtnbcdbkhpdpjgaaQA3
namespace Go.Proofs.Ytnbcdbkhpdpjgaa.H
end Go.Proofs.Ytnbcdbkhpdpjgaa.H
namespace Go.Proofs.Ytnbcdbkhpdpjgaa.QA
open Go.RowKit Go.Proofs.Ytnbcdbkhpdpjgaa.H Go.Proofs.YtnbcdbkhpdpjgaaW.PrintWords Go.Proofs.YtnbcdbkhpdpjgaaW.PrintLast Go.Proofs.YtnbcdbkhpdpjgaaW.PrintMore
attribute [local go_sem] max2_int min2_int max_two min_two max_three min_three max_four min_four   -- for this text's walks alone
set_option linter.unusedVariables false
set_option linter.unusedSimpArgs false

/-! ### pianolaref01_Clash: function 32 -/
mutual
def pianolaref01_Clash.l0 : Nat → Int → List Int → List Int → Int → Int → List (List Int) → Option (List Int × Int)
  | 0, _, _, _, _, _, _ => none
  | k + 1, x2, x9, x10, x11, x316000, x316001 => if x11 < (shl .i64 1 (x9.length : Int)) then (pianolaref01_Clash.l1 k x2 x9 x10 x11 ([] : List Int) ([] : List Int) 0 x316000 x316001) else (if (x10.length : Int) = 0 then (some (([] : List Int), 8)) else (some (x10, 0)))
def pianolaref01_Clash.l1 : Nat → Int → List Int → List Int → Int → List Int → List Int → Int → Int → List (List Int) → Option (List Int × Int)
  | 0, _, _, _, _, _, _, _, _, _ => none
  | k + 1, x2, x9, x10, x11, x12, x13, x14, x316000, x316001 => if x14 < (x9.length : Int) then (if 0 ≤ x14 then (if (Go.bits .and .i64 (shr .i64 x11 x14) 1) = 1 then ((some (([x14] : List Int) : List Int)).bind fun y318 => (if x12.length + y318.length < 17592186044416 then ((some (([rd x9 x14] : List Int) : List Int)).bind fun y325 => (if x13.length + y325.length < 17592186044416 then (pianolaref01_Clash.l1 k x2 x9 x10 x11 (x12 ++ y318) (x13 ++ y325) (wrap64 (x14 + 1)) x316000 x316001) else (none))) else (none))) else (pianolaref01_Clash.l1 k x2 x9 x10 x11 x12 x13 (wrap64 (x14 + 1)) x316000 x316001)) else (none)) else (if (x10.length : Int) = 0 then ((pianolaref01_offsets.f k x316000 x316001 x13 x2).bind fun t331 => (if (t331.length : Int) = 0 then (pianolaref01_Clash.l0 k x2 x9 x12 (wrap64 (x11 + 1)) x316000 x316001) else (pianolaref01_Clash.l0 k x2 x9 x10 (wrap64 (x11 + 1)) x316000 x316001))) else (if (x12.length : Int) < (x10.length : Int) then ((pianolaref01_offsets.f k x316000 x316001 x13 x2).bind fun t334 => (if (t334.length : Int) = 0 then (pianolaref01_Clash.l0 k x2 x9 x12 (wrap64 (x11 + 1)) x316000 x316001) else (pianolaref01_Clash.l0 k x2 x9 x10 (wrap64 (x11 + 1)) x316000 x316001))) else (pianolaref01_Clash.l0 k x2 x9 x10 (wrap64 (x11 + 1)) x316000 x316001)))
end
def pianolaref01_Clash.f (k : Nat) (a0_0 : Int) (l0_1 : List (List Int)) (a1 : Int) (a2 : Int) : Option (List Int × Int) := (pianolaref01_asked.f k a0_0 l0_1 a1 a2).bind fun t316 => (if t316 = 0 then (if 0 ≤ a1 then (if a1 < (l0_1.length : Int) then (pianolaref01_Clash.l0 k a2 (rd_L1 l0_1 a1) ([] : List Int) 1 a0_0 l0_1) else (none)) else (none)) else (some (([] : List Int), t316)))
theorem pianolaref01_Clash.mono_l : ∀ k, (∀ y0 y1 y2 y3 y4 y5, LeO (pianolaref01_Clash.l0 k y0 y1 y2 y3 y4 y5) (pianolaref01_Clash.l0 (k + 1) y0 y1 y2 y3 y4 y5)) ∧ (∀ y0 y1 y2 y3 y4 y5 y6 y7 y8, LeO (pianolaref01_Clash.l1 k y0 y1 y2 y3 y4 y5 y6 y7 y8) (pianolaref01_Clash.l1 (k + 1) y0 y1 y2 y3 y4 y5 y6 y7 y8))
  | 0 => ⟨fun _ _ _ _ _ _ r h => by simp [pianolaref01_Clash.l0] at h, fun _ _ _ _ _ _ _ _ _ r h => by simp [pianolaref01_Clash.l1] at h⟩
  | k + 1 => by
    obtain ⟨ih0, ih1⟩ := pianolaref01_Clash.mono_l k
    refine ⟨?_, ?_⟩
    · intro y0 y1 y2 y3 y4 y5
      unfold pianolaref01_Clash.l0
      repeat' first
      | (with_reducible exact ih0 _ _ _ _ _ _)
      | (with_reducible exact ih1 _ _ _ _ _ _ _ _ _)
      | (with_reducible exact pianolaref01_asked.mono _ _ _ _ _)
      | (with_reducible exact pianolaref01_offsets.mono _ _ _ _ _)
      | (with_reducible exact LeO.refl _)
      | (with_reducible exact LeO.none _)
      | (with_reducible refine LeO.ite ?_ ?_)
      | (with_reducible refine LeO.bind ?_ (fun _ => ?_))
      | exact ih0 _ _ _ _ _ _
      | exact ih1 _ _ _ _ _ _ _ _ _
      | exact pianolaref01_asked.mono _ _ _ _ _
      | exact pianolaref01_offsets.mono _ _ _ _ _
      | exact LeO.none _
      | refine LeO.ite ?_ ?_
      | refine LeO.bind ?_ (fun _ => ?_)
    · intro y0 y1 y2 y3 y4 y5 y6 y7 y8
      unfold pianolaref01_Clash.l1
      repeat' first
      | (with_reducible exact ih0 _ _ _ _ _ _)
      | (with_reducible exact ih1 _ _ _ _ _ _ _ _ _)
      | (with_reducible exact pianolaref01_asked.mono _ _ _ _ _)
      | (with_reducible exact pianolaref01_offsets.mono _ _ _ _ _)
      | (with_reducible exact LeO.refl _)
      | (with_reducible exact LeO.none _)
      | (with_reducible refine LeO.ite ?_ ?_)
      | (with_reducible refine LeO.bind ?_ (fun _ => ?_))
      | exact ih0 _ _ _ _ _ _
      | exact ih1 _ _ _ _ _ _ _ _ _
      | exact pianolaref01_asked.mono _ _ _ _ _
      | exact pianolaref01_offsets.mono _ _ _ _ _
      | exact LeO.none _
      | refine LeO.ite ?_ ?_
      | refine LeO.bind ?_ (fun _ => ?_)
theorem pianolaref01_Clash.mono : ∀ a0 a1 a2 a3 k, LeO (pianolaref01_Clash.f k a0 a1 a2 a3) (pianolaref01_Clash.f (k + 1) a0 a1 a2 a3) := by
  intro a0 a1 a2 a3 k
  obtain ⟨ih0, ih1⟩ := pianolaref01_Clash.mono_l k
  unfold pianolaref01_Clash.f
  repeat' first
      | (with_reducible exact ih0 _ _ _ _ _ _)
      | (with_reducible exact ih1 _ _ _ _ _ _ _ _ _)
      | (with_reducible exact pianolaref01_asked.mono _ _ _ _ _)
      | (with_reducible exact pianolaref01_offsets.mono _ _ _ _ _)
      | (with_reducible exact LeO.refl _)
      | (with_reducible exact LeO.none _)
      | (with_reducible refine LeO.ite ?_ ?_)
      | (with_reducible refine LeO.bind ?_ (fun _ => ?_))
      | exact ih0 _ _ _ _ _ _
      | exact ih1 _ _ _ _ _ _ _ _ _
      | exact pianolaref01_asked.mono _ _ _ _ _
      | exact pianolaref01_offsets.mono _ _ _ _ _
      | exact LeO.none _
      | refine LeO.ite ?_ ?_
      | refine LeO.bind ?_ (fun _ => ?_)
end Go.Proofs.Ytnbcdbkhpdpjgaa.QA
