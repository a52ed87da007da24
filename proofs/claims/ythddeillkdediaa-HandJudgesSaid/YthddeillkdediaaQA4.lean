/- Written by a program of this session (pp.py) over the loaded program: functions as plain Lean, with their contracts. -/
import Derived.Test.YthddeillkdediaaQA0
import Derived.Test.YthddeillkdediaaQA1
namespace Go.Proofs.Ythddeillkdediaa.H
end Go.Proofs.Ythddeillkdediaa.H
namespace Go.Proofs.Ythddeillkdediaa.QA
open Go.RowKit Go.Proofs.Ythddeillkdediaa.H Go.Proofs.YthddeillkdediaaW.PrintWords Go.Proofs.YthddeillkdediaaW.PrintLast Go.Proofs.YthddeillkdediaaW.PrintMore
attribute [local go_sem] max2_int min2_int max_two min_two max_three min_three max_four min_four   -- for this text's walks alone
set_option linter.unusedVariables false
set_option linter.unusedSimpArgs false

attribute [local go_sem high] eqA34
/-! ### pianolaref10_less: function 69 -/
def pianolaref10_less.f (a0_0 : Int) (a0_1 : Int) (a1_0 : Int) (a1_1 : Int) : Option (Bool) := some (decide ((wrap64 (a0_0 * a1_1)) < (wrap64 (a1_0 * a0_1))))
set_option maxHeartbeats 8000000 in
set_option maxRecDepth 100000 in
theorem pianolaref10_less.calls (a0_0 : Int) (a0_1 : Int) (a1_0 : Int) (a1_1 : Int) (r : Bool) (w : World) (h : pianolaref10_less.f a0_0 a0_1 a1_0 a1_1 = some r) :
    Calls Try.prog 69 #[.agg #[.int .i64 a0_0, .int .i64 a0_1], .agg #[.int .i64 a1_0, .int .i64 a1_1]] w fun e w' => e = .returned (.bool r) ∧ Below w.heap.size w w' := by
  have hu34 := Try.underlying34
  have HB := Aside0.mk (Below.refl w.heap.size w)
  have H : (some (decide ((wrap64 (a0_0 * a1_1)) < (wrap64 (a1_0 * a0_1))))) = some r := h
  clear h
  obtain rfl := Option.some.inj H
  go_enter Try.func69, Try.ntmps69
  go_wp2_with (first | ((with_reducible refine gate_dst (N := 2) rfl ?_); refine box_event ?hg (N := 2) ?hd (cs := #[.int .i64 a0_0, .int .i64 a0_1]) (t := 34) ?hr ?_; (case hd => rfl); (case hg => rfl); (case hr => first | (go_simp; done) | (go_simp; rfl)); intro gb409 hg w3 hbox hb; have n0_ := Aside0.mk (below_step (by repeat (first | (with_reducible first | exact HB.out | apply below_alloc | apply pw_below_drewN | apply below_drew1) | exact HB.out)) hb); have n1_ := Aside0.mk (hbox); have n2_ := Aside0.mk ((by rw [hg]; exact (below_size (by repeat (first | (with_reducible first | exact HB.out | apply below_alloc | apply pw_below_drewN | apply below_drew1) | exact HB.out))) : w.heap.size ≤ gb409)); have n3_ := Aside0.mk ((by rw [hg]; exact (below_size (by repeat (first | (with_reducible first | exact HB.out | apply below_alloc | apply pw_below_drewN | apply below_drew1) | exact HB.out))) : w.heap.size ≤ gb409)); clear HB; have HB := n0_; have BK409 := n1_; have GW409 := n2_; have GE409 := n3_; clear n0_ n1_ n2_ n3_; clear hb hbox hg) | ((with_reducible refine gate_dst (N := 3) rfl ?_); refine box_event ?hg (N := 3) ?hd (cs := #[.int .i64 a1_0, .int .i64 a1_1]) (t := 34) ?hr ?_; (case hd => rfl); (case hg => rfl); (case hr => first | (go_simp; done) | (go_simp; rfl)); intro gb410 hg w4 hbox hb; have n0_ := Aside0.mk (blk_below (g := gb409) (o := .cells #[.int .i64 a0_0, .int .i64 a0_1] 34 (0, 0)) (by (with_reducible repeat (first | refine blk_drewN ?_ _ | refine blk_drew ?_ | refine blk_alloc ?_ _)); exact BK409.out) hb); have n1_ := Aside0.mk (below_step (by repeat (first | (with_reducible first | exact HB.out | apply below_alloc | apply pw_below_drewN | apply below_drew1 | refine below_set ?_ GE409.out) | exact HB.out)) hb); have n2_ := Aside0.mk (hbox); have n3_ := Aside0.mk ((by rw [hg]; exact (below_size (by repeat (first | (with_reducible first | exact HB.out | apply below_alloc | apply pw_below_drewN | apply below_drew1 | refine below_set ?_ GE409.out) | exact HB.out))) : w.heap.size ≤ gb410)); have n4_ := Aside0.mk ((by rw [hg]; exact (below_size (by repeat (first | (with_reducible first | exact HB.out | apply below_alloc | apply pw_below_drewN | apply below_drew1 | refine below_set ?_ GE409.out) | exact HB.out))) : w.heap.size ≤ gb410)); have n5_ := Aside0.mk ((by rw [hg]; exact Nat.ne_of_lt (blk_lt (g := gb409) (o := .cells #[.int .i64 a0_0, .int .i64 a0_1] 34 (0, 0)) (by (with_reducible repeat (first | refine blk_drewN ?_ _ | refine blk_drew ?_ | refine blk_alloc ?_ _)); exact BK409.out)) : gb409 ≠ gb410)); have n6_ := Aside0.mk ((by rw [hg]; exact Nat.ne_of_gt (blk_lt (g := gb409) (o := .cells #[.int .i64 a0_0, .int .i64 a0_1] 34 (0, 0)) (by (with_reducible repeat (first | refine blk_drewN ?_ _ | refine blk_drew ?_ | refine blk_alloc ?_ _)); exact BK409.out)) : gb410 ≠ gb409)); clear BK409; clear HB; have BK409 := n0_; have HB := n1_; have BK410 := n2_; have GW410 := n3_; have GE410 := n4_; have NB409_410 := n5_; have NB410_409 := n6_; clear n0_ n1_ n2_ n3_ n4_ n5_ n6_; clear hb hbox hg; have hnb5 := NB409_410.out; have hnc5 := NB410_409.out; have hcz6_0 : w4.cell? ⟨gb409, 0, none⟩ = some (.int .i64 a0_0) := (blk_cell BK409.out 0).trans rfl; have hcz6_1 : w4.cell? ⟨gb409, 1, none⟩ = some (.int .i64 a0_1) := (blk_cell BK409.out 1).trans rfl; have hfz6_0 := blk_frozen BK409.out 0; have hfz6_1 := blk_frozen BK409.out 1; have hcz7_0 : w4.cell? ⟨gb410, 0, none⟩ = some (.int .i64 a1_0) := (blk_cell BK410.out 0).trans rfl; have hcz7_1 : w4.cell? ⟨gb410, 1, none⟩ = some (.int .i64 a1_1) := (blk_cell BK410.out 1).trans rfl; have hfz7_0 := blk_frozen BK410.out 0; have hfz7_1 := blk_frozen BK410.out 1))
  go_ret
  exact ⟨by first | rfl | (simp [errW_none, errW_some] <;> rfl) | (simp [*, errW_none, errW_some] <;> rfl), by repeat (first | (with_reducible first | exact HB.out | apply below_alloc | apply pw_below_drewN | apply below_drew1 | refine below_set ?_ GE409.out | refine below_set ?_ GE410.out) | exact HB.out)⟩

/-! ### pianolalaw10_sampled: function 70 -/
def pianolalaw10_sampled.l0 : Nat → List Int → Int → List Int → Int → Option (List Int)
  | 0, _, _, _, _ => none
  | k + 1, x0, x1, x5, x6 => if x6 < (x0.length : Int) then (if x6 < 5 then (if 0 ≤ x6 then (if (wrap64 (2 + (Int.tmod x1 64))) = 0 then (none) else (if x5.length < 17592186044416 then (pianolalaw10_sampled.l0 k x0 x1 (x5 ++ [wrap64 ((Int.tmod (wrap64 (rd x0 x6)) (wrap64 (2 + (Int.tmod x1 64)))) - 3)]) (wrap64 (x6 + 1))) else (none))) else (none)) else (if (x5.length : Int) = 0 then (if x5.length < 17592186044416 then (some (x5 ++ [1])) else (none)) else (some x5))) else (if (x5.length : Int) = 0 then (if x5.length < 17592186044416 then (some (x5 ++ [1])) else (none)) else (some x5))
def pianolalaw10_sampled.f (k : Nat) (l0 : List Int) (a1 : Int) : Option (List Int) := pianolalaw10_sampled.l0 k l0 a1 (([] : List Int)) 0
theorem pianolalaw10_sampled.mono_l : ∀ k, (∀ y0 y1 y2 y3, LeO (pianolalaw10_sampled.l0 k y0 y1 y2 y3) (pianolalaw10_sampled.l0 (k + 1) y0 y1 y2 y3))
  | 0 => fun _ _ _ _ r h => by simp [pianolalaw10_sampled.l0] at h
  | k + 1 => by
    have ih0 := pianolalaw10_sampled.mono_l k
    · intro y0 y1 y2 y3
      unfold pianolalaw10_sampled.l0
      repeat' first
      | (with_reducible exact ih0 _ _ _ _)
      | (with_reducible exact LeO.refl _)
      | (with_reducible exact LeO.none _)
      | (with_reducible refine LeO.ite ?_ ?_)
      | (with_reducible refine LeO.bind ?_ (fun _ => ?_))
      | exact ih0 _ _ _ _
      | exact LeO.none _
      | refine LeO.ite ?_ ?_
      | refine LeO.bind ?_ (fun _ => ?_)
theorem pianolalaw10_sampled.mono : ∀ a0 a1 k, LeO (pianolalaw10_sampled.f k a0 a1) (pianolalaw10_sampled.f (k + 1) a0 a1) := by
  intro a0 a1 k
  have ih0 := pianolalaw10_sampled.mono_l k
  unfold pianolalaw10_sampled.f
  repeat' first
      | (with_reducible exact ih0 _ _ _ _)
      | (with_reducible exact LeO.refl _)
      | (with_reducible exact LeO.none _)
      | (with_reducible refine LeO.ite ?_ ?_)
      | (with_reducible refine LeO.bind ?_ (fun _ => ?_))
      | exact ih0 _ _ _ _
      | exact LeO.none _
      | refine LeO.ite ?_ ?_
      | refine LeO.bind ?_ (fun _ => ?_)
/-! ### pianolalaw10_Touch_made: function 32 -/
def pianolalaw10_Touch_made.f (k : Nat) (l0_0 : List Int) (l0_1 : List Int) (a0_2 : Int) : Option (List Int × List Int) := (pianolalaw10_sampled.f k l0_0 (wrap64 (a0_2))).bind fun t455 => ((pianolalaw10_sampled.f k l0_1 (wrap64 (a0_2))).bind fun t458 => (some (t455, t458)))
theorem pianolalaw10_Touch_made.mono : ∀ a0 a1 a2 k, LeO (pianolalaw10_Touch_made.f k a0 a1 a2) (pianolalaw10_Touch_made.f (k + 1) a0 a1 a2) := by
  intro a0 a1 a2 k
  unfold pianolalaw10_Touch_made.f
  repeat' first
      | (with_reducible exact pianolalaw10_sampled.mono _ _ _)
      | (with_reducible exact LeO.refl _)
      | (with_reducible exact LeO.none _)
      | (with_reducible refine LeO.ite ?_ ?_)
      | (with_reducible refine LeO.bind ?_ (fun _ => ?_))
      | exact pianolalaw10_sampled.mono _ _ _
      | exact LeO.none _
      | refine LeO.ite ?_ ?_
      | refine LeO.bind ?_ (fun _ => ?_)
def pianolalaw10_Touch_made.B1 : List Nat := [0, 1, 0, 4, 12, 31, 0, 64, 0, 256, 768, 2047, 4095, 8191]
/-! ### pianolalaw10_beats: function 33 -/
mutual
def pianolalaw10_beats.l0 : Nat → List Int → Int → List Int → Int → Int → Option (Int)
  | 0, _, _, _, _, _ => none
  | k + 1, x1, x5, x10, x11, x12 => if x12 < x11 then (if 0 ≤ x12 then (if x12 < (x10.length : Int) then (pianolalaw10_beats.l1 k x1 x5 (rd x10 x12) x10 x11 x12 x1 (x1.length : Int) 0) else (none)) else (none)) else (some x5)
def pianolalaw10_beats.l1 : Nat → List Int → Int → Int → List Int → Int → Int → List Int → Int → Int → Option (Int)
  | 0, _, _, _, _, _, _, _, _, _ => none
  | k + 1, x1, x5, x7, x10, x11, x12, x16, x17, x18 => if x18 < x17 then (if 0 ≤ x18 then (if x18 < (x16.length : Int) then (if x7 < (rd x16 x18) then (pianolalaw10_beats.l1 k x1 (wrap64 (x5 + 2)) x7 x10 x11 x12 x16 x17 (wrap64 (x18 + 1))) else (if x7 = (rd x16 x18) then (pianolalaw10_beats.l1 k x1 (wrap64 (x5 + 1)) x7 x10 x11 x12 x16 x17 (wrap64 (x18 + 1))) else (pianolalaw10_beats.l1 k x1 x5 x7 x10 x11 x12 x16 x17 (wrap64 (x18 + 1))))) else (none)) else (none)) else (pianolalaw10_beats.l0 k x1 x5 x10 x11 (wrap64 (x12 + 1)))
end
def pianolalaw10_beats.f (k : Nat) (l0 : List Int) (l1 : List Int) : Option (Int) := pianolalaw10_beats.l0 k l1 0 l0 (l0.length : Int) 0
theorem pianolalaw10_beats.mono_l : ∀ k, (∀ y0 y1 y2 y3 y4, LeO (pianolalaw10_beats.l0 k y0 y1 y2 y3 y4) (pianolalaw10_beats.l0 (k + 1) y0 y1 y2 y3 y4)) ∧ (∀ y0 y1 y2 y3 y4 y5 y6 y7 y8, LeO (pianolalaw10_beats.l1 k y0 y1 y2 y3 y4 y5 y6 y7 y8) (pianolalaw10_beats.l1 (k + 1) y0 y1 y2 y3 y4 y5 y6 y7 y8))
  | 0 => ⟨fun _ _ _ _ _ r h => by simp [pianolalaw10_beats.l0] at h, fun _ _ _ _ _ _ _ _ _ r h => by simp [pianolalaw10_beats.l1] at h⟩
  | k + 1 => by
    obtain ⟨ih0, ih1⟩ := pianolalaw10_beats.mono_l k
    refine ⟨?_, ?_⟩
    · intro y0 y1 y2 y3 y4
      unfold pianolalaw10_beats.l0
      repeat' first
      | (with_reducible exact ih0 _ _ _ _ _)
      | (with_reducible exact ih1 _ _ _ _ _ _ _ _ _)
      | (with_reducible exact LeO.refl _)
      | (with_reducible exact LeO.none _)
      | (with_reducible refine LeO.ite ?_ ?_)
      | (with_reducible refine LeO.bind ?_ (fun _ => ?_))
      | exact ih0 _ _ _ _ _
      | exact ih1 _ _ _ _ _ _ _ _ _
      | exact LeO.none _
      | refine LeO.ite ?_ ?_
      | refine LeO.bind ?_ (fun _ => ?_)
    · intro y0 y1 y2 y3 y4 y5 y6 y7 y8
      unfold pianolalaw10_beats.l1
      repeat' first
      | (with_reducible exact ih0 _ _ _ _ _)
      | (with_reducible exact ih1 _ _ _ _ _ _ _ _ _)
      | (with_reducible exact LeO.refl _)
      | (with_reducible exact LeO.none _)
      | (with_reducible refine LeO.ite ?_ ?_)
      | (with_reducible refine LeO.bind ?_ (fun _ => ?_))
      | exact ih0 _ _ _ _ _
      | exact ih1 _ _ _ _ _ _ _ _ _
      | exact LeO.none _
      | refine LeO.ite ?_ ?_
      | refine LeO.bind ?_ (fun _ => ?_)
theorem pianolalaw10_beats.mono : ∀ a0 a1 k, LeO (pianolalaw10_beats.f k a0 a1) (pianolalaw10_beats.f (k + 1) a0 a1) := by
  intro a0 a1 k
  obtain ⟨ih0, ih1⟩ := pianolalaw10_beats.mono_l k
  unfold pianolalaw10_beats.f
  repeat' first
      | (with_reducible exact ih0 _ _ _ _ _)
      | (with_reducible exact ih1 _ _ _ _ _ _ _ _ _)
      | (with_reducible exact LeO.refl _)
      | (with_reducible exact LeO.none _)
      | (with_reducible refine LeO.ite ?_ ?_)
      | (with_reducible refine LeO.bind ?_ (fun _ => ?_))
      | exact ih0 _ _ _ _ _
      | exact ih1 _ _ _ _ _ _ _ _ _
      | exact LeO.none _
      | refine LeO.ite ?_ ?_
      | refine LeO.bind ?_ (fun _ => ?_)
/-! ### pianolalaw10_chosen: function 34 -/
def pianolalaw10_chosen.l0 : Nat → List Int → Int → List Int → List Int → List Int → Int → Int → Option (List Int × List Int × Bool)
  | 0, _, _, _, _, _, _, _ => none
  | k + 1, x0, x2, x6, x7, x15, x16, x17 => if x17 < x16 then (if 0 ≤ x17 then (if x17 < (x15.length : Int) then (if (Go.bits .and .i64 (shr .i64 x2 x17) 1) = 1 then (if x6.length < 17592186044416 then (pianolalaw10_chosen.l0 k x0 x2 (x6 ++ [rd x15 x17]) x7 x15 x16 (wrap64 (x17 + 1))) else (none)) else (if x7.length < 17592186044416 then (pianolalaw10_chosen.l0 k x0 x2 x6 (x7 ++ [rd x15 x17]) x15 x16 (wrap64 (x17 + 1))) else (none))) else (none)) else (none)) else (some (x6, x7, ((x6.length : Int) == (x0.length : Int))))
def pianolalaw10_chosen.f (k : Nat) (l0 : List Int) (l1 : List Int) (a2 : Int) : Option (List Int × List Int × Bool) := (some (([] : List Int) : List Int)).bind fun y463 => (if y463.length + l0.length < 17592186044416 then ((some (y463 ++ l0 : List Int)).bind fun y466 => (if y466.length + l1.length < 17592186044416 then ((some (y466 ++ l1 : List Int)).bind fun y469 => (pianolalaw10_chosen.l0 k l0 a2 ([] : List Int) ([] : List Int) y469 (y469.length : Int) 0)) else (none))) else (none))
theorem pianolalaw10_chosen.mono_l : ∀ k, (∀ y0 y1 y2 y3 y4 y5 y6, LeO (pianolalaw10_chosen.l0 k y0 y1 y2 y3 y4 y5 y6) (pianolalaw10_chosen.l0 (k + 1) y0 y1 y2 y3 y4 y5 y6))
  | 0 => fun _ _ _ _ _ _ _ r h => by simp [pianolalaw10_chosen.l0] at h
  | k + 1 => by
    have ih0 := pianolalaw10_chosen.mono_l k
    · intro y0 y1 y2 y3 y4 y5 y6
      unfold pianolalaw10_chosen.l0
      repeat' first
      | (with_reducible exact ih0 _ _ _ _ _ _ _)
      | (with_reducible exact LeO.refl _)
      | (with_reducible exact LeO.none _)
      | (with_reducible refine LeO.ite ?_ ?_)
      | (with_reducible refine LeO.bind ?_ (fun _ => ?_))
      | exact ih0 _ _ _ _ _ _ _
      | exact LeO.none _
      | refine LeO.ite ?_ ?_
      | refine LeO.bind ?_ (fun _ => ?_)
theorem pianolalaw10_chosen.mono : ∀ a0 a1 a2 k, LeO (pianolalaw10_chosen.f k a0 a1 a2) (pianolalaw10_chosen.f (k + 1) a0 a1 a2) := by
  intro a0 a1 a2 k
  have ih0 := pianolalaw10_chosen.mono_l k
  unfold pianolalaw10_chosen.f
  repeat' first
      | (with_reducible exact ih0 _ _ _ _ _ _ _)
      | (with_reducible exact LeO.refl _)
      | (with_reducible exact LeO.none _)
      | (with_reducible refine LeO.ite ?_ ?_)
      | (with_reducible refine LeO.bind ?_ (fun _ => ?_))
      | exact ih0 _ _ _ _ _ _ _
      | exact LeO.none _
      | refine LeO.ite ?_ ?_
      | refine LeO.bind ?_ (fun _ => ?_)
/-! ### pianolalaw10_far: function 35 -/
def pianolalaw10_far.f (a0 : Int) (a1 : Int) : Option (Int) := some (mx (wrap64 (a0 - a1)) (wrap64 (a1 - a0)))
/-! ### pianolalaw10_lowest: function 36 -/
def pianolalaw10_lowest.l0 : Nat → Int → Int → Int → Int → Int → Int → Option (Bool)
  | 0, _, _, _, _, _, _ => none
  | k + 1, x1, x2, x7, x8, x480000, x480001 => if x8 > 0 then (if x8 = 0 then (none) else (pianolalaw10_lowest.l0 k x1 x2 x8 (Int.tmod x7 x8) x480000 x480001)) else (if x7 = 0 then (none) else (some (x480000 == (wrap64 (Int.tdiv x1 x7)) && (x480001 == (wrap64 (Int.tdiv x2 x7))))))
def pianolalaw10_lowest.f (k : Nat) (a0_0 : Int) (a0_1 : Int) (a1 : Int) (a2 : Int) : Option (Bool) := pianolalaw10_lowest.l0 k a1 a2 a1 a2 a0_0 a0_1
theorem pianolalaw10_lowest.mono_l : ∀ k, (∀ y0 y1 y2 y3 y4 y5, LeO (pianolalaw10_lowest.l0 k y0 y1 y2 y3 y4 y5) (pianolalaw10_lowest.l0 (k + 1) y0 y1 y2 y3 y4 y5))
  | 0 => fun _ _ _ _ _ _ r h => by simp [pianolalaw10_lowest.l0] at h
  | k + 1 => by
    have ih0 := pianolalaw10_lowest.mono_l k
    · intro y0 y1 y2 y3 y4 y5
      unfold pianolalaw10_lowest.l0
      repeat' first
      | (with_reducible exact ih0 _ _ _ _ _ _)
      | (with_reducible exact LeO.refl _)
      | (with_reducible exact LeO.none _)
      | (with_reducible refine LeO.ite ?_ ?_)
      | (with_reducible refine LeO.bind ?_ (fun _ => ?_))
      | exact ih0 _ _ _ _ _ _
      | exact LeO.none _
      | refine LeO.ite ?_ ?_
      | refine LeO.bind ?_ (fun _ => ?_)
theorem pianolalaw10_lowest.mono : ∀ a0 a1 a2 a3 k, LeO (pianolalaw10_lowest.f k a0 a1 a2 a3) (pianolalaw10_lowest.f (k + 1) a0 a1 a2 a3) := by
  intro a0 a1 a2 a3 k
  have ih0 := pianolalaw10_lowest.mono_l k
  unfold pianolalaw10_lowest.f
  repeat' first
      | (with_reducible exact ih0 _ _ _ _ _ _)
      | (with_reducible exact LeO.refl _)
      | (with_reducible exact LeO.none _)
      | (with_reducible refine LeO.ite ?_ ?_)
      | (with_reducible refine LeO.bind ?_ (fun _ => ?_))
      | exact ih0 _ _ _ _ _ _
      | exact LeO.none _
      | refine LeO.ite ?_ ?_
      | refine LeO.bind ?_ (fun _ => ?_)
/-! ### pianolalaw10_signed: function 37 -/
mutual
def pianolalaw10_signed.l0 : Nat → List Int → List Int → Int → List Int → Int → Int → Option (Int)
  | 0, _, _, _, _, _, _ => none
  | k + 1, x0, x1, x5, x12, x13, x14 => if x14 < x13 then (if 0 ≤ x14 then (if x14 < (x12.length : Int) then (if x14 < (x1.length : Int) then (if (rd x12 x14) = (rd x1 x14) then (pianolalaw10_signed.l0 k x0 x1 x5 x12 x13 (wrap64 (x14 + 1))) else (pianolalaw10_signed.l1 k x0 x1 x5 x14 (rd x12 x14) 1 x12 x13 x14 x0 (x0.length : Int) 0)) else (none)) else (none)) else (none)) else (some x5)
def pianolalaw10_signed.l1 : Nat → List Int → List Int → Int → Int → Int → Int → List Int → Int → Int → List Int → Int → Int → Option (Int)
  | 0, _, _, _, _, _, _, _, _, _, _, _, _ => none
  | k + 1, x0, x1, x5, x6, x7, x8, x12, x13, x14, x25, x26, x27 => if x27 < x26 then (if 0 ≤ x27 then (if x27 < (x25.length : Int) then (if x27 < (x1.length : Int) then (if (rd x25 x27) = (rd x1 x27) then (pianolalaw10_signed.l1 k x0 x1 x5 x6 x7 x8 x12 x13 x14 x25 x26 (wrap64 (x27 + 1))) else ((pianolalaw10_far.f (rd x25 x27) (rd x1 x27)).bind fun t515 => (if 0 ≤ x6 then (if x6 < (x1.length : Int) then ((pianolalaw10_far.f x7 (rd x1 x6)).bind fun t517 => (if t515 < t517 then (pianolalaw10_signed.l1 k x0 x1 x5 x6 x7 (wrap64 (x8 + 2)) x12 x13 x14 x25 x26 (wrap64 (x27 + 1))) else ((pianolalaw10_far.f x7 (rd x1 x6)).bind fun t519 => (if t515 = t519 then (pianolalaw10_signed.l1 k x0 x1 x5 x6 x7 (wrap64 (x8 + 1)) x12 x13 x14 x25 x26 (wrap64 (x27 + 1))) else (pianolalaw10_signed.l1 k x0 x1 x5 x6 x7 x8 x12 x13 x14 x25 x26 (wrap64 (x27 + 1))))))) else (none)) else (none)))) else (none)) else (none)) else (none)) else (if 0 ≤ x6 then (if x6 < (x1.length : Int) then (if x7 < (rd x1 x6) then (pianolalaw10_signed.l0 k x0 x1 (wrap64 (x5 + x8)) x12 x13 (wrap64 (x14 + 1))) else (pianolalaw10_signed.l0 k x0 x1 (wrap64 (x5 - x8)) x12 x13 (wrap64 (x14 + 1)))) else (none)) else (none))
end
def pianolalaw10_signed.f (k : Nat) (l0 : List Int) (l1 : List Int) : Option (Int) := pianolalaw10_signed.l0 k l0 l1 0 l0 (l0.length : Int) 0
theorem pianolalaw10_signed.mono_l : ∀ k, (∀ y0 y1 y2 y3 y4 y5, LeO (pianolalaw10_signed.l0 k y0 y1 y2 y3 y4 y5) (pianolalaw10_signed.l0 (k + 1) y0 y1 y2 y3 y4 y5)) ∧ (∀ y0 y1 y2 y3 y4 y5 y6 y7 y8 y9 y10 y11, LeO (pianolalaw10_signed.l1 k y0 y1 y2 y3 y4 y5 y6 y7 y8 y9 y10 y11) (pianolalaw10_signed.l1 (k + 1) y0 y1 y2 y3 y4 y5 y6 y7 y8 y9 y10 y11))
  | 0 => ⟨fun _ _ _ _ _ _ r h => by simp [pianolalaw10_signed.l0] at h, fun _ _ _ _ _ _ _ _ _ _ _ _ r h => by simp [pianolalaw10_signed.l1] at h⟩
  | k + 1 => by
    obtain ⟨ih0, ih1⟩ := pianolalaw10_signed.mono_l k
    refine ⟨?_, ?_⟩
    · intro y0 y1 y2 y3 y4 y5
      unfold pianolalaw10_signed.l0
      repeat' first
      | (with_reducible exact ih0 _ _ _ _ _ _)
      | (with_reducible exact ih1 _ _ _ _ _ _ _ _ _ _ _ _)
      | (with_reducible exact LeO.refl _)
      | (with_reducible exact LeO.none _)
      | (with_reducible refine LeO.ite ?_ ?_)
      | (with_reducible refine LeO.bind ?_ (fun _ => ?_))
      | exact ih0 _ _ _ _ _ _
      | exact ih1 _ _ _ _ _ _ _ _ _ _ _ _
      | exact LeO.none _
      | refine LeO.ite ?_ ?_
      | refine LeO.bind ?_ (fun _ => ?_)
    · intro y0 y1 y2 y3 y4 y5 y6 y7 y8 y9 y10 y11
      unfold pianolalaw10_signed.l1
      repeat' first
      | (with_reducible exact ih0 _ _ _ _ _ _)
      | (with_reducible exact ih1 _ _ _ _ _ _ _ _ _ _ _ _)
      | (with_reducible exact LeO.refl _)
      | (with_reducible exact LeO.none _)
      | (with_reducible refine LeO.ite ?_ ?_)
      | (with_reducible refine LeO.bind ?_ (fun _ => ?_))
      | exact ih0 _ _ _ _ _ _
      | exact ih1 _ _ _ _ _ _ _ _ _ _ _ _
      | exact LeO.none _
      | refine LeO.ite ?_ ?_
      | refine LeO.bind ?_ (fun _ => ?_)
theorem pianolalaw10_signed.mono : ∀ a0 a1 k, LeO (pianolalaw10_signed.f k a0 a1) (pianolalaw10_signed.f (k + 1) a0 a1) := by
  intro a0 a1 k
  obtain ⟨ih0, ih1⟩ := pianolalaw10_signed.mono_l k
  unfold pianolalaw10_signed.f
  repeat' first
      | (with_reducible exact ih0 _ _ _ _ _ _)
      | (with_reducible exact ih1 _ _ _ _ _ _ _ _ _ _ _ _)
      | (with_reducible exact LeO.refl _)
      | (with_reducible exact LeO.none _)
      | (with_reducible refine LeO.ite ?_ ?_)
      | (with_reducible refine LeO.bind ?_ (fun _ => ?_))
      | exact ih0 _ _ _ _ _ _
      | exact ih1 _ _ _ _ _ _ _ _ _ _ _ _
      | exact LeO.none _
      | refine LeO.ite ?_ ?_
      | refine LeO.bind ?_ (fun _ => ?_)
end Go.Proofs.Ythddeillkdediaa.QA
