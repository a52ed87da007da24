/- align.Walks. -/
import Derived.RangeFuncNested
import Derived.RangeFuncBound
import Derived.RangeFuncCalls
import Derived.RangeFuncLeaves
import Derived.RangeFuncBox
import Derived.RangeFuncWrites
import Derived.Shelf.Abstract
import Derived.Shelf.RegionOpen
import Derived.WalkKit
import Derived.OwnWalkIn
import Derived.TacticsInMore
import Derived.LoopNIn
import Derived.LoopIn
import Derived.Maps.AppendAt
import Derived.Carry
import Derived.Test.YtkocigldchiifaaH8
namespace Go.Proofs.Ytkocigldchiifaa.H
open Go.RowKit Go.Proofs.YtkocigldchiifaaW.PrintWords Go.Proofs.YtkocigldchiifaaW.PrintLast Go.Proofs.YtkocigldchiifaaW.PrintMore
open Go.Shelf Go.Proofs.Ytkocigldchiifaa.QA
attribute [local go_sem] Oper.semAt_some
set_option linter.unusedVariables false
set_option linter.unusedSimpArgs false


def align_Walks.f (l0 l1 : List S59) (hh : Int) : Option (Int × Int) := (align_Check.f l0 l1).bind fun e => some (if e = 0 then (if hh < 0 then (0, 3) else (cntI l0 l1 hh 0 0, 0)) else (0, e))
set_option maxRecDepth 100000 in
set_option maxHeartbeats 1000000 in
theorem align_Walks.calls (A0 : Option Addr) (c0 : Nat) (l0 : List S59) (A1 : Option Addr) (c1 : Nat) (l1 : List S59) (a2 : Int) (r1 r2 : Int) (w : World) (hr0 : Kd.C k59 w A0 l0.length l0) (hc0 : l0.length ≤ c0) (hr1 : Kd.C k59 w A1 l1.length l1) (hc1 : l1.length ≤ c1) (h : align_Walks.f l0 l1 a2 = some (r1, r2)) :
  Calls Try.prog 32 #[.slice A0 l0.length c0, .slice A1 l1.length c1, .int .i64 a2] w fun e w' => e = .returned (.tuple #[.int .i64 r1, .int .i64 r2]) ∧ Below w.heap.size w w' := by
 have hu25 := Try.underlying25
 unfold align_Walks.f at h
 obtain ⟨e, he, h⟩ := Option.bind_eq_some_iff.1 h
 have HR0 := Aside0.mk hr0
 have HR1 := Aside0.mk hr1
 have HE := Aside0.mk he
 have HC := Aside0.mk (And.intro hc0 hc1)
 have h1 := Option.some.inj h
 clear h he hr0 hr1 hc0 hc1
 by_cases h0 : e = 0
 · subst h0
   rw [if_pos rfl] at h1
   by_cases hl : a2 < 0
   · rw [if_pos hl] at h1
     obtain ⟨rfl, rfl⟩ := Prod.mk.inj h1
     have hlb : decide (a2 < 0) = true := decide_eq_true hl
     clear h1 hl
     go_enter Try.func32, Try.ntmps32
     go_wp2_with fail
     refine (newTable_ok A0 c0 l0 A1 c1 l1 _ HR0.out HC.out.1 HR1.out HC.out.2 HE.out).mono ?_
     rintro e w1 ⟨g, rfl, hT, _, hb⟩
     have HB := Aside0.mk hb
     clear hT hb
     go_wp2
     go_ret2
     exact ⟨rfl, HB.out⟩
   · rw [if_neg hl] at h1
     obtain ⟨rfl, rfl⟩ := Prod.mk.inj h1
     exact (walks_ok A0 c0 l0 A1 c1 l1 a2 w HR0.out HC.out.1 HR1.out HC.out.2 HE.out (Int.not_lt.1 hl))
 · rw [if_neg h0] at h1
   obtain ⟨rfl, rfl⟩ := Prod.mk.inj h1
   have hb0 : (e != 0) = true := by simp [h0]
   have H0 := Aside0.mk h0
   clear h1 h0
   go_enter Try.func32, Try.ntmps32
   go_wp2_with fail
   refine (newTable_no A0 c0 l0 A1 c1 l1 e _ HR0.out HC.out.1 HR1.out HC.out.2 HE.out H0.out).mono ?_
   rintro e w1 ⟨rfl, hb⟩
   have HB := Aside0.mk hb
   clear hb
   go_wp2
   go_ret2
   exact ⟨rfl, HB.out⟩

end Go.Proofs.Ytkocigldchiifaa.H
