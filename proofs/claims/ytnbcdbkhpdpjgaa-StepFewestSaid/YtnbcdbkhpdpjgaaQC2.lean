/- Written by a program of this session (pp.py) over the loaded program: functions as plain Lean, with their contracts. -/
import Derived.Test.YtnbcdbkhpdpjgaaQA0
import Derived.Test.YtnbcdbkhpdpjgaaQA3
namespace Go.Proofs.Ytnbcdbkhpdpjgaa.H
end Go.Proofs.Ytnbcdbkhpdpjgaa.H
namespace Go.Proofs.Ytnbcdbkhpdpjgaa.QA
open Go.RowKit Go.Proofs.Ytnbcdbkhpdpjgaa.H Go.Proofs.YtnbcdbkhpdpjgaaW.PrintWords Go.Proofs.YtnbcdbkhpdpjgaaW.PrintLast Go.Proofs.YtnbcdbkhpdpjgaaW.PrintMore
attribute [local go_sem] max2_int min2_int max_two min_two max_three min_three max_four min_four   -- for this text's walks alone
set_option linter.unusedVariables false
set_option linter.unusedSimpArgs false

/-! ### pianolalaw01_near: function 37 -/
def pianolalaw01_near.l0 : Nat → Int → Int → Int → Int → Int → Option (Bool)
  | 0, _, _, _, _, _ => none
  | k + 1, x0, x1, x2, x3, x9 => if x1 = 0 then (none) else (if x9 ≤ (wrap64 ((wrap64 (Int.tdiv (wrap64 ((wrap64 (x0 - x2)) + x3)) x1)) + 2)) then (if (wrap64 ((wrap64 (x0 - x2)) - (wrap64 (x9 * x1)))) ≤ x3 then (if (wrap64 (-(wrap64 ((wrap64 (x0 - x2)) - (wrap64 (x9 * x1)))))) ≤ x3 then (some true) else (pianolalaw01_near.l0 k x0 x1 x2 x3 (wrap64 (x9 + 1)))) else (pianolalaw01_near.l0 k x0 x1 x2 x3 (wrap64 (x9 + 1)))) else (some false))
def pianolalaw01_near.f (k : Nat) (a0 : Int) (a1 : Int) (a2 : Int) (a3 : Int) : Option (Bool) := if a1 = 0 then (none) else (pianolalaw01_near.l0 k a0 a1 a2 a3 (wrap64 ((wrap64 (Int.tdiv (wrap64 ((wrap64 (a0 - a2)) - a3)) a1)) - 2)))
theorem pianolalaw01_near.mono_l : ∀ k, (∀ y0 y1 y2 y3 y4, LeO (pianolalaw01_near.l0 k y0 y1 y2 y3 y4) (pianolalaw01_near.l0 (k + 1) y0 y1 y2 y3 y4))
  | 0 => fun _ _ _ _ _ r h => by simp [pianolalaw01_near.l0] at h
  | k + 1 => by
    have ih0 := pianolalaw01_near.mono_l k
    · intro y0 y1 y2 y3 y4
      unfold pianolalaw01_near.l0
      repeat' first
      | (with_reducible exact ih0 _ _ _ _ _)
      | (with_reducible exact LeO.refl _)
      | (with_reducible exact LeO.none _)
      | (with_reducible refine LeO.ite ?_ ?_)
      | (with_reducible refine LeO.bind ?_ (fun _ => ?_))
      | exact ih0 _ _ _ _ _
      | exact LeO.none _
      | refine LeO.ite ?_ ?_
      | refine LeO.bind ?_ (fun _ => ?_)
theorem pianolalaw01_near.mono : ∀ a0 a1 a2 a3 k, LeO (pianolalaw01_near.f k a0 a1 a2 a3) (pianolalaw01_near.f (k + 1) a0 a1 a2 a3) := by
  intro a0 a1 a2 a3 k
  have ih0 := pianolalaw01_near.mono_l k
  unfold pianolalaw01_near.f
  repeat' first
      | (with_reducible exact ih0 _ _ _ _ _)
      | (with_reducible exact LeO.refl _)
      | (with_reducible exact LeO.none _)
      | (with_reducible refine LeO.ite ?_ ?_)
      | (with_reducible refine LeO.bind ?_ (fun _ => ?_))
      | exact ih0 _ _ _ _ _
      | exact LeO.none _
      | refine LeO.ite ?_ ?_
      | refine LeO.bind ?_ (fun _ => ?_)
set_option maxHeartbeats 8000000 in
set_option maxRecDepth 100000 in
theorem pianolalaw01_near.calls (k : Nat) (a0 : Int) (a1 : Int) (a2 : Int) (a3 : Int) (r : Bool) (w : World) (h : pianolalaw01_near.f k a0 a1 a2 a3 = some r) :
    Calls Try.prog 37 #[.int .i64 a0, .int .i64 a1, .int .i64 a2, .int .i64 a3] w fun e w' => e = .returned (.bool r) ∧ Drawn0 w w' := by
  have H : (if a1 = 0 then (none) else (pianolalaw01_near.l0 k a0 a1 a2 a3 (wrap64 ((wrap64 (Int.tdiv (wrap64 ((wrap64 (a0 - a2)) - a3)) a1)) - 2)))) = some r := h
  clear h
  by_cases c5 : a1 = 0
  · rw [if_pos c5] at H
    exact absurd H (by simp)
  · rw [if_neg c5] at H
    have c5b0 : (a1 == 0) = false := beq_eq_false_iff_ne.mpr c5
    have c5b1 : (a1 != 0) = true := bne_iff_ne.mpr c5
    have H' := Aside0.mk H
    clear H
    go_enter Try.func37, Try.ntmps37
    go_wp2
    go_loopg [9] k (fun kq v9 w' => ∃ (x9_1 : Int), v9 = .int .i64 x9_1 ∧ Aside0 (pianolalaw01_near.l0 kq a0 a1 a2 a3 x9_1 = some r) ∧ Aside0 (kq ≤ k) ∧ Drawn0 w w')
    case atStart => exact ⟨(wrap64 ((wrap64 (Int.tdiv (wrap64 ((wrap64 (a0 - a2)) - a3)) a1)) - 2)), (by first | rfl | (simp; done) | (simp [*]; done)), H', ⟨Nat.le_refl _⟩, by repeat (first | exact Drawn0.refl _ | apply Drawn0.step)⟩
    case round =>
      clear H'
      try clear p2
      try clear c3
      try clear c5
      try clear c5b0
      try clear c5b1
      obtain ⟨x9_1, rfl, HA, HK1, ⟨m1, rfl⟩⟩ := hrel
      cases gk with
      | zero => exact absurd HA.out (by simp [pianolalaw01_near.l0])
      | succ k1 =>
        have H := HA.out
        clear HA
        simp only [pianolalaw01_near.l0] at H
        by_cases c6 : a1 = 0
        · rw [if_pos c6] at H
          exact absurd H (by simp)
        · rw [if_neg c6] at H
          have c6b0 : (a1 == 0) = false := beq_eq_false_iff_ne.mpr c6
          have c6b1 : (a1 != 0) = true := bne_iff_ne.mpr c6
          by_cases c7 : x9_1 ≤ (wrap64 ((wrap64 (Int.tdiv (wrap64 ((wrap64 (a0 - a2)) + a3)) a1)) + 2))
          · rw [if_pos c7] at H
            have c7b0 : decide (x9_1 ≤ (wrap64 ((wrap64 (Int.tdiv (wrap64 ((wrap64 (a0 - a2)) + a3)) a1)) + 2))) = true := decide_eq_true c7
            clear c7
            by_cases c8 : (wrap64 ((wrap64 (a0 - a2)) - (wrap64 (x9_1 * a1)))) ≤ a3
            · rw [if_pos c8] at H
              have c8b0 : decide ((wrap64 ((wrap64 (a0 - a2)) - (wrap64 (x9_1 * a1)))) ≤ a3) = true := decide_eq_true c8
              clear c8
              by_cases c9 : (wrap64 (-(wrap64 ((wrap64 (a0 - a2)) - (wrap64 (x9_1 * a1)))))) ≤ a3
              · rw [if_pos c9] at H
                have c9b0 : decide ((wrap64 (-(wrap64 ((wrap64 (a0 - a2)) - (wrap64 (x9_1 * a1)))))) ≤ a3) = true := decide_eq_true c9
                clear c9
                obtain rfl := Option.some.inj H
                go_wp2
                go_ret
                exact ⟨by first | rfl | (simp; done) | (simp [*]; done), by repeat (first | exact Drawn0.refl _ | apply Drawn0.step)⟩
              · rw [if_neg c9] at H
                have c9b0 : decide ((wrap64 (-(wrap64 ((wrap64 (a0 - a2)) - (wrap64 (x9_1 * a1)))))) ≤ a3) = false := decide_eq_false c9
                clear c9
                have H' := Aside0.mk H
                clear H
                go_wp2
                go_roundg k1
                case measure => have := HK1.out; omega
                case rel => exact ⟨(wrap64 (x9_1 + 1)), (by first | rfl | (simp; done) | (simp [*]; done)), H', ⟨by have := HK1.out; omega⟩, by repeat (first | exact Drawn0.refl _ | apply Drawn0.step)⟩
            · rw [if_neg c8] at H
              have c8b0 : decide ((wrap64 ((wrap64 (a0 - a2)) - (wrap64 (x9_1 * a1)))) ≤ a3) = false := decide_eq_false c8
              clear c8
              have H' := Aside0.mk H
              clear H
              go_wp2
              go_roundg k1
              case measure => have := HK1.out; omega
              case rel => exact ⟨(wrap64 (x9_1 + 1)), (by first | rfl | (simp; done) | (simp [*]; done)), H', ⟨by have := HK1.out; omega⟩, by repeat (first | exact Drawn0.refl _ | apply Drawn0.step)⟩
          · rw [if_neg c7] at H
            have c7b0 : decide (x9_1 ≤ (wrap64 ((wrap64 (Int.tdiv (wrap64 ((wrap64 (a0 - a2)) + a3)) a1)) + 2))) = false := decide_eq_false c7
            clear c7
            obtain rfl := Option.some.inj H
            go_wp2
            go_ret
            exact ⟨by first | rfl | (simp; done) | (simp [*]; done), by repeat (first | exact Drawn0.refl _ | apply Drawn0.step)⟩

end Go.Proofs.Ytnbcdbkhpdpjgaa.QA
