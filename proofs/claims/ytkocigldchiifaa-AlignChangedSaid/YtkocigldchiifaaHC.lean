/- begins, ends, precedes. -/
import Derived.RangeFuncNested
import Derived.RangeFuncBound
import Derived.RangeFuncCalls
import Derived.RangeFuncLeaves
import Derived.RangeFuncBox
import Derived.RangeFuncWrites
import Derived.Shelf.Abstract
import Derived.Shelf.RegionOpen
import Derived.WalkKit
import Derived.OwnWalkIn
import Derived.TacticsInMore
import Derived.LoopNIn
import Derived.LoopIn
import Derived.Maps.AppendAt
import Derived.Carry
import Derived.Test.YtkocigldchiifaaH3
namespace Go.Proofs.Ytkocigldchiifaa.H
open Go.RowKit Go.Proofs.YtkocigldchiifaaW.PrintWords Go.Proofs.YtkocigldchiifaaW.PrintLast Go.Proofs.YtkocigldchiifaaW.PrintMore
open Go.Shelf Go.Proofs.Ytkocigldchiifaa.QA
attribute [local go_sem] Oper.semAt_some
set_option linter.unusedVariables false
set_option linter.unusedSimpArgs false


def begB (a b : List S59) (i k : Int) : Bool := i == 0 || k == (b.length : Int) - 1
def endB (a b : List S59) (i k : Int) : Bool := i == (a.length : Int) - 1 || k == 0
/-- A pair can come right before another one. -/
def preB (p q : S25) : Bool := decide (q.f0 ≤ p.f0 + 1) && decide (q.f1 ≥ p.f1 - 1) && !(q.f0 == p.f0 + 1 && q.f1 == p.f1 - 1)
theorem prec_calls (p q : S25) (w : World) (h0 : 0 ≤ p.f0 ∧ p.f0 ≤ 1000000) (h1 : 0 ≤ p.f1 ∧ p.f1 ≤ 1000000) :
  Calls Try.prog 61 #[.agg #[.int .i64 p.f0, .int .i64 p.f1], .agg #[.int .i64 q.f0, .int .i64 q.f1]] w fun e w' => e = .returned (.bool (preB p q)) ∧ Below w.heap.size w w' := by
 refine align_Pair_precedes.calls p.f0 p.f1 q.f0 q.f1 (preB p q) w ?_
 have e1 : wrap64 (p.f0 + 1) = p.f0 + 1 := by unfold wrap64; omega
 have e2 : wrap64 (p.f1 - 1) = p.f1 - 1 := by unfold wrap64; omega
 unfold align_Pair_precedes.f preB
 rw [e1, e2]
 by_cases c1 : q.f0 ≤ p.f0 + 1
 · by_cases c2 : q.f1 ≥ p.f1 - 1
   · rw [if_pos c1, if_pos c2, decide_eq_true c1, decide_eq_true c2, Bool.not_and]
     rfl
   · rw [if_pos c1, if_neg c2, decide_eq_false c2, Bool.and_false, Bool.false_and]
 · rw [if_neg c1, decide_eq_false c1, Bool.false_and, Bool.false_and]

set_option maxRecDepth 100000 in
theorem begins_calls (g : Nat) (a b : List S59) (i k : Int) (w : World) (h : Tb w g a b) :
  Calls Try.prog 56 #[.pointer (some ⟨g, 0, none⟩), .agg #[.int .i64 i, .int .i64 k]] w fun e w' => e = .returned (.bool (begB a b i k)) ∧ Below w.heap.size w w' := by
 have hu25 := Try.underlying25
 have hlt := h.lt
 obtain ⟨A0, c0, A1, c1, h1, _, _⟩ := h
 have k2 : w.cell? ⟨g, 2, none⟩ = some (.int .i64 ((a.length : Int) - 1)) := (blk_cell h1 2).trans rfl
 have k3 : w.cell? ⟨g, 3, none⟩ = some (.int .i64 ((b.length : Int) - 1)) := (blk_cell h1 3).trans rfl
 clear h1
 unfold begB
 generalize (a.length : Int) - 1 = la at k2 ⊢
 generalize (b.length : Int) - 1 = lb at k3 ⊢
 have hb := below_alloc (Below.refl w.heap.size w) (.cells #[.int .i64 i, .int .i64 k] 25)
 have bp := blk_new w (.cells #[.int .i64 i, .int .i64 k] 25)
 have y0 : (w.alloc (.cells #[.int .i64 i, .int .i64 k] 25)).cell? ⟨w.heap.size, 0, none⟩ = some (.int .i64 i) := (blk_cell bp 0).trans rfl
 have y1 : (w.alloc (.cells #[.int .i64 i, .int .i64 k] 25)).cell? ⟨w.heap.size, 1, none⟩ = some (.int .i64 k) := (blk_cell bp 1).trans rfl
 replace k2 := (hb.cell (p := ⟨g, 2, none⟩) hlt).trans k2
 replace k3 := (hb.cell (p := ⟨g, 3, none⟩) hlt).trans k3
 have HB := Aside0.mk hb
 clear bp hlt hb
 cases q1 : (i == 0)
 all_goals
  go_enter Try.func56, Try.ntmps56
  go_wp2_with fail
  generalize w.alloc (.cells #[.int .i64 i, .int .i64 k] 25) = w1 at y0 y1 k2 k3 HB ⊢
  generalize w.heap.size = B at y0 y1 ⊢
  go_quiet (fail)
  go_wp2
  go_ret
  exact ⟨rfl, by repeat (first | exact HB.out | apply pw_below_drewN | apply below_alloc)⟩

set_option maxRecDepth 100000 in
theorem ends_calls (g : Nat) (a b : List S59) (i k : Int) (w : World) (h : Tb w g a b) :
  Calls Try.prog 59 #[.pointer (some ⟨g, 0, none⟩), .agg #[.int .i64 i, .int .i64 k]] w fun e w' => e = .returned (.bool (endB a b i k)) ∧ Below w.heap.size w w' := by
 have hu25 := Try.underlying25
 have hlt := h.lt
 obtain ⟨A0, c0, A1, c1, h1, _, _⟩ := h
 have k2 : w.cell? ⟨g, 2, none⟩ = some (.int .i64 ((a.length : Int) - 1)) := (blk_cell h1 2).trans rfl
 have k3 : w.cell? ⟨g, 3, none⟩ = some (.int .i64 ((b.length : Int) - 1)) := (blk_cell h1 3).trans rfl
 clear h1
 unfold endB
 generalize (a.length : Int) - 1 = la at k2 ⊢
 generalize (b.length : Int) - 1 = lb at k3 ⊢
 have hb := below_alloc (Below.refl w.heap.size w) (.cells #[.int .i64 i, .int .i64 k] 25)
 have bp := blk_new w (.cells #[.int .i64 i, .int .i64 k] 25)
 have y0 : (w.alloc (.cells #[.int .i64 i, .int .i64 k] 25)).cell? ⟨w.heap.size, 0, none⟩ = some (.int .i64 i) := (blk_cell bp 0).trans rfl
 have y1 : (w.alloc (.cells #[.int .i64 i, .int .i64 k] 25)).cell? ⟨w.heap.size, 1, none⟩ = some (.int .i64 k) := (blk_cell bp 1).trans rfl
 replace k2 := (hb.cell (p := ⟨g, 2, none⟩) hlt).trans k2
 replace k3 := (hb.cell (p := ⟨g, 3, none⟩) hlt).trans k3
 have HB := Aside0.mk hb
 clear bp hlt hb
 cases q1 : (i == la)
 all_goals
  go_enter Try.func59, Try.ntmps59
  go_wp2_with fail
  generalize w.alloc (.cells #[.int .i64 i, .int .i64 k] 25) = w1 at y0 y1 k2 k3 HB ⊢
  generalize w.heap.size = B at y0 y1 ⊢
  go_quiet (fail)
  go_wp2
  go_ret
  exact ⟨rfl, by repeat (first | exact HB.out | apply pw_below_drewN | apply below_alloc)⟩

end Go.Proofs.Ytkocigldchiifaa.H
