/- Written by a program of this session (pp.py) over the loaded program: functions as plain Lean, with their contracts. -/
import Derived.Test.YtnbcdbkhpdpjgaaQA0
import Derived.Test.YtnbcdbkhpdpjgaaQA3
namespace Go.Proofs.Ytnbcdbkhpdpjgaa.H
end Go.Proofs.Ytnbcdbkhpdpjgaa.H
namespace Go.Proofs.Ytnbcdbkhpdpjgaa.QA
open Go.RowKit Go.Proofs.Ytnbcdbkhpdpjgaa.H Go.Proofs.YtnbcdbkhpdpjgaaW.PrintWords Go.Proofs.YtnbcdbkhpdpjgaaW.PrintLast Go.Proofs.YtnbcdbkhpdpjgaaW.PrintMore
attribute [local go_sem] max2_int min2_int max_two min_two max_three min_three max_four min_four   -- for this text's walks alone
set_option linter.unusedVariables false
set_option linter.unusedSimpArgs false

/-! ### pianolaref01_Verify: function 33 -/
def pianolaref01_Verify.l0 : Nat → Int → Int → List Int → List Int → Int → Int → List (List Int) → Option (Int)
  | 0, _, _, _, _, _, _, _ => none
  | k + 1, x1, x2, x3, x10, x11, x338000, x338001 => if x11 < (x3.length : Int) then (if 0 ≤ x11 then (if 0 ≤ x1 then (if x1 < (x338001.length : Int) then ((pianolaref01_Is.f (rd x3 x11) 0 (wrap64 (((rd_L1 x338001 x1).length : Int) - 1))).bind fun t344 => (if t344 = true then (if x11 > 0 then (if 0 ≤ (wrap64 (x11 - 1)) then (if (wrap64 (x11 - 1)) < (x3.length : Int) then (if (rd x3 x11) ≤ (rd x3 (wrap64 (x11 - 1))) then (some 7) else (if 0 ≤ (rd x3 x11) then (if (rd x3 x11) < ((rd_L1 x338001 x1).length : Int) then (if x10.length < 17592186044416 then (pianolaref01_Verify.l0 k x1 x2 x3 (x10 ++ [rd (rd_L1 x338001 x1) (rd x3 x11)]) (wrap64 (x11 + 1)) x338000 x338001) else (none)) else (none)) else (none))) else (none)) else (none)) else (if 0 ≤ (rd x3 x11) then (if (rd x3 x11) < ((rd_L1 x338001 x1).length : Int) then (if x10.length < 17592186044416 then (pianolaref01_Verify.l0 k x1 x2 x3 (x10 ++ [rd (rd_L1 x338001 x1) (rd x3 x11)]) (wrap64 (x11 + 1)) x338000 x338001) else (none)) else (none)) else (none))) else (some 8))) else (none)) else (none)) else (none)) else ((pianolaref01_offsets.f k x338000 x338001 x10 x2).bind fun t339 => (if (t339.length : Int) > 0 then (some 14) else (some 0)))
def pianolaref01_Verify.f (k : Nat) (a0_0 : Int) (l0_1 : List (List Int)) (a1 : Int) (a2 : Int) (l3 : List Int) : Option (Int) := (pianolaref01_asked.f k a0_0 l0_1 a1 a2).bind fun t338 => (if t338 = 0 then (if (l3.length : Int) = 0 then (some 4) else (pianolaref01_Verify.l0 k a1 a2 l3 ([] : List Int) 0 a0_0 l0_1)) else (some t338))
theorem pianolaref01_Verify.mono_l : ∀ k, (∀ y0 y1 y2 y3 y4 y5 y6, LeO (pianolaref01_Verify.l0 k y0 y1 y2 y3 y4 y5 y6) (pianolaref01_Verify.l0 (k + 1) y0 y1 y2 y3 y4 y5 y6))
  | 0 => fun _ _ _ _ _ _ _ r h => by simp [pianolaref01_Verify.l0] at h
  | k + 1 => by
    have ih0 := pianolaref01_Verify.mono_l k
    · intro y0 y1 y2 y3 y4 y5 y6
      unfold pianolaref01_Verify.l0
      repeat' first
      | (with_reducible exact ih0 _ _ _ _ _ _ _)
      | (with_reducible exact pianolaref01_asked.mono _ _ _ _ _)
      | (with_reducible exact pianolaref01_offsets.mono _ _ _ _ _)
      | (with_reducible exact LeO.refl _)
      | (with_reducible exact LeO.none _)
      | (with_reducible refine LeO.ite ?_ ?_)
      | (with_reducible refine LeO.bind ?_ (fun _ => ?_))
      | exact ih0 _ _ _ _ _ _ _
      | exact pianolaref01_asked.mono _ _ _ _ _
      | exact pianolaref01_offsets.mono _ _ _ _ _
      | exact LeO.none _
      | refine LeO.ite ?_ ?_
      | refine LeO.bind ?_ (fun _ => ?_)
theorem pianolaref01_Verify.mono : ∀ a0 a1 a2 a3 a4 k, LeO (pianolaref01_Verify.f k a0 a1 a2 a3 a4) (pianolaref01_Verify.f (k + 1) a0 a1 a2 a3 a4) := by
  intro a0 a1 a2 a3 a4 k
  have ih0 := pianolaref01_Verify.mono_l k
  unfold pianolaref01_Verify.f
  repeat' first
      | (with_reducible exact ih0 _ _ _ _ _ _ _)
      | (with_reducible exact pianolaref01_asked.mono _ _ _ _ _)
      | (with_reducible exact pianolaref01_offsets.mono _ _ _ _ _)
      | (with_reducible exact LeO.refl _)
      | (with_reducible exact LeO.none _)
      | (with_reducible refine LeO.ite ?_ ?_)
      | (with_reducible refine LeO.bind ?_ (fun _ => ?_))
      | exact ih0 _ _ _ _ _ _ _
      | exact pianolaref01_asked.mono _ _ _ _ _
      | exact pianolaref01_offsets.mono _ _ _ _ _
      | exact LeO.none _
      | refine LeO.ite ?_ ?_
      | refine LeO.bind ?_ (fun _ => ?_)
end Go.Proofs.Ytnbcdbkhpdpjgaa.QA
