/- Written by a program of this session (pp.py) over the loaded program: functions as plain Lean, with their contracts. -/
import Derived.Test.YtkocigldchiifaaQA0
import Derived.Test.YtkocigldchiifaaQA1
import Derived.Test.YtkocigldchiifaaQA2
import Derived.Test.YtkocigldchiifaaQA3
namespace Go.Proofs.Ytkocigldchiifaa.H
end Go.Proofs.Ytkocigldchiifaa.H
namespace Go.Proofs.Ytkocigldchiifaa.QA
open Go.RowKit Go.Proofs.Ytkocigldchiifaa.H Go.Proofs.YtkocigldchiifaaW.PrintWords Go.Proofs.YtkocigldchiifaaW.PrintLast Go.Proofs.YtkocigldchiifaaW.PrintMore
attribute [local go_sem] max2_int min2_int max_two min_two max_three min_three max_four min_four   -- for this text's walks alone
set_option linter.unusedVariables false
set_option linter.unusedSimpArgs false

attribute [local go_sem high] eqA25 eqA35
/-! ### pianolaref07_checked: function 54 -/
def pianolaref07_checked.l0 : Nat → List (S79) → Int → Option (Int)
  | 0, _, _ => none
  | k + 1, x0, x3 => if x3 < (x0.length : Int) then (if 0 ≤ x3 then ((pianolaref07_is.f ((rd_T79 x0 x3).f0) 1 88).bind fun t138 => (if t138 = true then ((pianolaref07_is.f ((rd_T79 x0 x3).f1) 0 1000).bind fun t140 => (if t140 = true then ((pianolaref07_is.f ((rd_T79 x0 x3).f2) 0 1000).bind fun t142 => (if t142 = true then (pianolaref07_checked.l0 k x0 (wrap64 (x3 + 1))) else (some 3))) else (some 3))) else (some 3))) else (none)) else (some 0)
def pianolaref07_checked.f (k : Nat) (l0 : List (S79)) : Option (Int) := if (l0.length : Int) = 0 then (some 4) else (if (l0.length : Int) > 30 then (some 5) else (pianolaref07_checked.l0 k l0 0))
theorem pianolaref07_checked.mono_l : ∀ k, (∀ y0 y1, LeO (pianolaref07_checked.l0 k y0 y1) (pianolaref07_checked.l0 (k + 1) y0 y1))
  | 0 => fun _ _ r h => by simp [pianolaref07_checked.l0] at h
  | k + 1 => by
    have ih0 := pianolaref07_checked.mono_l k
    · intro y0 y1
      unfold pianolaref07_checked.l0
      repeat' first
      | (with_reducible exact ih0 _ _)
      | (with_reducible exact LeO.refl _)
      | (with_reducible exact LeO.none _)
      | (with_reducible refine LeO.ite ?_ ?_)
      | (with_reducible refine LeO.bind ?_ (fun _ => ?_))
      | exact ih0 _ _
      | exact LeO.none _
      | refine LeO.ite ?_ ?_
      | refine LeO.bind ?_ (fun _ => ?_)
theorem pianolaref07_checked.mono : ∀ a0 k, LeO (pianolaref07_checked.f k a0) (pianolaref07_checked.f (k + 1) a0) := by
  intro a0 k
  have ih0 := pianolaref07_checked.mono_l k
  unfold pianolaref07_checked.f
  repeat' first
      | (with_reducible exact ih0 _ _)
      | (with_reducible exact LeO.refl _)
      | (with_reducible exact LeO.none _)
      | (with_reducible refine LeO.ite ?_ ?_)
      | (with_reducible refine LeO.bind ?_ (fun _ => ?_))
      | exact ih0 _ _
      | exact LeO.none _
      | refine LeO.ite ?_ ?_
      | refine LeO.bind ?_ (fun _ => ?_)
/-! ### pianolaref07_Check: function 25 -/
def pianolaref07_Check.f (k : Nat) (l0 : List (S79)) (l1 : List (S79)) : Option (Int) := (pianolaref07_checked.f k l0).bind fun t143 => (if t143 = 0 then ((pianolaref07_checked.f k l1).bind fun t144 => (some t144)) else (some t143))
theorem pianolaref07_Check.mono : ∀ a0 a1 k, LeO (pianolaref07_Check.f k a0 a1) (pianolaref07_Check.f (k + 1) a0 a1) := by
  intro a0 a1 k
  unfold pianolaref07_Check.f
  repeat' first
      | (with_reducible exact pianolaref07_checked.mono _ _)
      | (with_reducible exact LeO.refl _)
      | (with_reducible exact LeO.none _)
      | (with_reducible refine LeO.ite ?_ ?_)
      | (with_reducible refine LeO.bind ?_ (fun _ => ?_))
      | exact pianolaref07_checked.mono _ _
      | exact LeO.none _
      | refine LeO.ite ?_ ?_
      | refine LeO.bind ?_ (fun _ => ?_)
/-! ### pianolaref07_paired: function 48 -/
def pianolaref07_paired.f (l0 : List (S79)) (l1 : List (S79)) (a2_0 : Int) (a2_1 : Int) : Option (Bool) := (pianolaref07_is.f a2_0 0 (wrap64 ((l0.length : Int) - 1))).bind fun t146 => (if t146 = true then ((pianolaref07_is.f a2_1 0 (wrap64 ((l1.length : Int) - 1))).bind fun t147 => (some t147)) else (some false))
/-! ### pianolaref07_apart: function 71 -/
def pianolaref07_apart.f (a0 : Int) (a1 : Int) : Option (Int) := some (wrap64 ((mx a0 a1) - (mn a0 a1)))
/-! ### pianolaref07_distance: function 49 -/
def pianolaref07_distance.f (a0_0 : Int) (a0_1 : Int) (a0_2 : Int) (a1_0 : Int) (a1_1 : Int) (a1_2 : Int) : Option (Int) := if a0_0 = a1_0 then ((pianolaref07_apart.f a0_1 a1_1).bind fun t150 => ((pianolaref07_apart.f a0_2 a1_2).bind fun t151 => (some (wrap64 (t150 + t151))))) else (some 1000000)
def pianolaref07_distance.B3 : List Nat := [0, 1, 0, 4, 15, 0, 32, 0, 128, 511, 1023, 2047]
/-! ### pianolaref07_Distance: function 18 -/
def pianolaref07_Distance.f (k : Nat) (l0 : List (S79)) (l1 : List (S79)) (a2_0 : Int) (a2_1 : Int) : Option (Int × Int) := (pianolaref07_Check.f k l0 l1).bind fun t153 => (if t153 = 0 then ((pianolaref07_paired.f l0 l1 a2_0 a2_1).bind fun t154 => (if t154 = true then (if 0 ≤ a2_0 then (if a2_0 < (l0.length : Int) then (if 0 ≤ a2_1 then (if a2_1 < (l1.length : Int) then ((pianolaref07_distance.f ((rd_T79 l0 a2_0).f0) ((rd_T79 l0 a2_0).f1) ((rd_T79 l0 a2_0).f2) ((rd_T79 l1 a2_1).f0) ((rd_T79 l1 a2_1).f1) ((rd_T79 l1 a2_1).f2)).bind fun t157 => (some (t157, 0))) else (none)) else (none)) else (none)) else (none)) else (some (0, 8)))) else (some (0, t153)))
theorem pianolaref07_Distance.mono : ∀ a0 a1 a2 a3 k, LeO (pianolaref07_Distance.f k a0 a1 a2 a3) (pianolaref07_Distance.f (k + 1) a0 a1 a2 a3) := by
  intro a0 a1 a2 a3 k
  unfold pianolaref07_Distance.f
  repeat' first
      | (with_reducible exact pianolaref07_Check.mono _ _ _)
      | (with_reducible exact LeO.refl _)
      | (with_reducible exact LeO.none _)
      | (with_reducible refine LeO.ite ?_ ?_)
      | (with_reducible refine LeO.bind ?_ (fun _ => ?_))
      | exact pianolaref07_Check.mono _ _ _
      | exact LeO.none _
      | refine LeO.ite ?_ ?_
      | refine LeO.bind ?_ (fun _ => ?_)
/-! ### pianolalaw07_same: function 23 -/
def pianolalaw07_same.l0 : Nat → List (S25) → List (S35) → Int → Option (Bool)
  | 0, _, _, _ => none
  | k + 1, x0, x1, x5 => if x5 < (x0.length : Int) then (if 0 ≤ x5 then (if x5 < (x1.length : Int) then (if (!(((rd_T25 x0 x5).f0) == ((rd_T35 x1 x5).f0)) || (!(((rd_T25 x0 x5).f1) == ((rd_T35 x1 x5).f1)))) = true then (some false) else (pianolalaw07_same.l0 k x0 x1 (wrap64 (x5 + 1)))) else (none)) else (none)) else (some true)
def pianolalaw07_same.f (k : Nat) (l0 : List (S25)) (l1 : List (S35)) : Option (Bool) := if (l0.length : Int) = (l1.length : Int) then (pianolalaw07_same.l0 k l0 l1 0) else (some false)
theorem pianolalaw07_same.mono_l : ∀ k, (∀ y0 y1 y2, LeO (pianolalaw07_same.l0 k y0 y1 y2) (pianolalaw07_same.l0 (k + 1) y0 y1 y2))
  | 0 => fun _ _ _ r h => by simp [pianolalaw07_same.l0] at h
  | k + 1 => by
    have ih0 := pianolalaw07_same.mono_l k
    · intro y0 y1 y2
      unfold pianolalaw07_same.l0
      repeat' first
      | (with_reducible exact ih0 _ _ _)
      | (with_reducible exact LeO.refl _)
      | (with_reducible exact LeO.none _)
      | (with_reducible refine LeO.ite ?_ ?_)
      | (with_reducible refine LeO.bind ?_ (fun _ => ?_))
      | exact ih0 _ _ _
      | exact LeO.none _
      | refine LeO.ite ?_ ?_
      | refine LeO.bind ?_ (fun _ => ?_)
theorem pianolalaw07_same.mono : ∀ a0 a1 k, LeO (pianolalaw07_same.f k a0 a1) (pianolalaw07_same.f (k + 1) a0 a1) := by
  intro a0 a1 k
  have ih0 := pianolalaw07_same.mono_l k
  unfold pianolalaw07_same.f
  repeat' first
      | (with_reducible exact ih0 _ _ _)
      | (with_reducible exact LeO.refl _)
      | (with_reducible exact LeO.none _)
      | (with_reducible refine LeO.ite ?_ ?_)
      | (with_reducible refine LeO.bind ?_ (fun _ => ?_))
      | exact ih0 _ _ _
      | exact LeO.none _
      | refine LeO.ite ?_ ?_
      | refine LeO.bind ?_ (fun _ => ?_)
/-! ### pianolaref07_begins: function 62 -/
def pianolaref07_begins.f (l0 : List (S79)) (a1_0 : Int) (a1_1 : Int) : Option (Bool) := if a1_0 = 0 then (some true) else (some (a1_1 == (wrap64 ((l0.length : Int) - 1))))
/-! ### pianolaref07_ends: function 63 -/
def pianolaref07_ends.f (l0 : List (S79)) (a1_0 : Int) (a1_1 : Int) : Option (Bool) := if a1_0 = (wrap64 ((l0.length : Int) - 1)) then (some true) else (some (a1_1 == 0))
/-! ### pianolaref07_follows: function 64 -/
def pianolaref07_follows.f (a0_0 : Int) (a0_1 : Int) (a1_0 : Int) (a1_1 : Int) : Option (Bool) := if a1_0 ≤ (wrap64 (a0_0 + 1)) then (if a1_1 ≥ (wrap64 (a0_1 - 1)) then (some (!(a1_0 == (wrap64 (a0_0 + 1))) || (!(a1_1 == (wrap64 (a0_1 - 1)))))) else (some false)) else (some false)
end Go.Proofs.Ytkocigldchiifaa.QA
