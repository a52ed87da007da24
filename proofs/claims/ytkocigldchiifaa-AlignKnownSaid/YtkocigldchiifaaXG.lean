/- Texts T0, P5, T2 of this chapter, one behind the other. -/
import Derived.Carry
import Derived.Laws.IdiomArrays
import Derived.Lib.SmallJoins
import Derived.LoopIn
import Derived.LoopNIn
import Derived.Maps.AppendAt
import Derived.OpenShut
import Derived.OwnWalkIn
import Derived.RangeFuncBound
import Derived.RangeFuncBox
import Derived.RangeFuncCalls
import Derived.RangeFuncLeaves
import Derived.RangeFuncNested
import Derived.RangeFuncWrites
import Derived.Shelf.Abstract
import Derived.Shelf.RegionOpen
import Derived.TacticsInMore
import Derived.WalkKit
import Derived.WalkSmall
import Derived.Test.YtkocigldchiifaaXB
import Derived.Test.YtkocigldchiifaaXE

/- Take.made: a roll by numbers. -/
namespace Go.Proofs.Ytkocigldchiifaa.H
open Go.RowKit Go.Proofs.YtkocigldchiifaaW.PrintWords Go.Proofs.YtkocigldchiifaaW.PrintLast Go.Proofs.YtkocigldchiifaaW.PrintMore
open Go.Shelf Go.Proofs.Ytkocigldchiifaa.QA
attribute [local go_sem] Oper.semAt_some
set_option linter.unusedVariables false
set_option linter.unusedSimpArgs false



end Go.Proofs.Ytkocigldchiifaa.H

/- Walks whose height is at most a number; the gap is the smallest such number. -/
namespace Go.Proofs.Ytkocigldchiifaa.H
open Go.RowKit Go.Proofs.YtkocigldchiifaaW.PrintWords Go.Proofs.YtkocigldchiifaaW.PrintLast Go.Proofs.YtkocigldchiifaaW.PrintMore
open Go.Shelf Go.Proofs.Ytkocigldchiifaa.QA
set_option linter.unusedVariables false
set_option linter.unusedSimpArgs false

def dist (a b : List S59) (i k : Int) : Int := farD (rd_T59 a i) (rd_T59 b k)
/-- A walk from a pair to the last one, no pair of which is above h. -/
inductive Way (a b : List S59) (h : Int) : Int → Int → Prop
 | last (i k : Int) : i = (a.length : Int) - 1 → k = (b.length : Int) - 1 → hasP a b i k = true → dist a b i k ≤ h → Way a b h i k
 | step (i k : Int) (q : S25) : hasP a b i k = true → dist a b i k ≤ h → q ∈ movesOf a b i k → Way a b h q.f0 q.f1 → Way a b h i k
theorem Way.has {a b : List S59} {h i k : Int} (hw : Way a b h i k) : hasP a b i k = true ∧ dist a b i k ≤ h := by
 cases hw with
 | last _ _ _ _ h1 h2 => exact ⟨h1, h2⟩
 | step _ _ q h1 h2 _ _ => exact ⟨h1, h2⟩
theorem mem_moves {a b : List S59} {i k : Int} {q : S25} : q ∈ movesOf a b i k ↔ hasP a b q.f0 q.f1 = true ∧ (q = ⟨i + 1, k + 1⟩ ∨ q = ⟨i + 1, k⟩ ∨ q = ⟨i, k + 1⟩) := by
 refine ⟨moves_mem, fun h => ?_⟩
 unfold movesOf movesTo cand
 refine List.mem_filter.2 ⟨?_, h.1⟩
 simpa using h.2
theorem farD_symm (x y : S59) : farD x y = farD y x := by
 unfold farD apartD mx
 by_cases h : x.f0 = y.f0
 · rw [if_pos h, if_pos h.symm]
   split <;> split <;> split <;> split <;> omega
 · rw [if_neg h, if_neg (Ne.symm h)]
theorem hasP_symm (a b : List S59) (i k : Int) : hasP b a k i = hasP a b i k := by
 unfold hasP
 rw [Bool.and_comm]
theorem Way.symm {a b : List S59} {h i k : Int} (hw : Way a b h i k) : Way b a h k i := by
 induction hw with
 | last i k e1 e2 hp hd => exact .last k i e2 e1 (by rw [hasP_symm]; exact hp) (by unfold dist at hd ⊢; rw [farD_symm]; exact hd)
 | step i k q hp hd hq hw ih =>
  refine .step k i ⟨q.f1, q.f0⟩ (by rw [hasP_symm]; exact hp) (by unfold dist at hd ⊢; rw [farD_symm]; exact hd) ?_ ih
  obtain ⟨h1, h2⟩ := moves_mem hq
  refine mem_moves.2 ⟨by rw [hasP_symm]; exact h1, ?_⟩
  rcases h2 with e | e | e <;> rw [e] <;> simp
theorem Rolls.symm {a b : List S59} (h : Rolls a b) : Rolls b a := ⟨h.hb, h.ha, h.gb, h.ga⟩
end Go.Proofs.Ytkocigldchiifaa.H

/- Takes are rolls. -/
namespace Go.Proofs.Ytkocigldchiifaa.H
open Go.RowKit Go.Proofs.YtkocigldchiifaaW.PrintWords Go.Proofs.YtkocigldchiifaaW.PrintLast Go.Proofs.YtkocigldchiifaaW.PrintMore
open Go.Shelf Go.Proofs.Ytkocigldchiifaa.QA
set_option linter.unusedVariables false
set_option linter.unusedSimpArgs false

theorem chk_ok {l : List S59} (h1 : 1 ≤ l.length ∧ l.length ≤ 30) (h2 : ∀ x ∈ l, goodB x = true) : chk l = 0 := by
 unfold chk
 rw [if_neg (by omega), if_neg (by omega), if_neg]
 intro h
 obtain ⟨x, hx, h3⟩ := List.any_eq_true.1 h
 rw [h2 x hx] at h3
 cases h3
theorem check_ok {a b : List S59} (hR : Rolls a b) : align_Check.f a b = some 0 := by
 unfold align_Check.f
 rw [chk_ok hR.ha hR.ga, chk_ok hR.hb hR.gb]
 rfl
end Go.Proofs.Ytkocigldchiifaa.H
