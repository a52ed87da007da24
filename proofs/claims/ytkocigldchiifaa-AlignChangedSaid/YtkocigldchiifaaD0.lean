/- The marks that loops over iterators leave among the deferred calls. -/
import Derived.RangeFuncNested
import Derived.RangeFuncBound
import Derived.RangeFuncCalls
import Derived.RangeFuncLeaves
import Derived.RangeFuncBox
import Derived.RangeFuncWrites
import Derived.Shelf.Abstract
import Derived.Shelf.RegionOpen
import Derived.WalkKit
import Derived.OwnWalkIn
import Derived.TacticsInMore
import Derived.LoopNIn
import Derived.LoopIn
import Derived.Maps.AppendAt
import Derived.Carry
import Derived.Test.YtkocigldchiifaaM0
namespace Go.Proofs.Ytkocigldchiifaa.H
open Go.RowKit Go.Proofs.YtkocigldchiifaaW.PrintWords Go.Proofs.YtkocigldchiifaaW.PrintLast Go.Proofs.YtkocigldchiifaaW.PrintMore
open Go.Shelf Go.Proofs.Ytkocigldchiifaa.QA
attribute [local go_sem] Oper.semAt_some
set_option linter.unusedVariables false
set_option linter.unusedSimpArgs false


def Marks (n₀ : Nat) : List Deferred → World → Prop
 | [], _ => True
 | d :: ds, W => (∃ D, d = { target := .collected D, args := #[] } ∧ n₀ ≤ D ∧ W.heap[D]? = some (.deferred (some [])) ∧ ∀ d' ∈ ds, ∀ D', d' = { target := .collected D', args := #[] } → D' < D) ∧ Marks n₀ ds W
theorem Marks.mono {n₀ : Nat} : ∀ {ds : List Deferred} {W W' : World}, Marks n₀ ds W → (∀ D, n₀ ≤ D → W.heap[D]? = some (.deferred (some [])) → W'.heap[D]? = some (.deferred (some []))) → Marks n₀ ds W'
 | [], _, _, _, _ => trivial
 | d :: ds, W, W', h, hk => by
  obtain ⟨⟨D, h1, h2, h3, h4⟩, h5⟩ := h
  exact ⟨⟨D, h1, h2, hk D h2 h3, h4⟩, h5.mono hk⟩
theorem Marks.below {n₀ : Nat} {ds : List Deferred} {W W' : World} (h : Marks n₀ ds W) (hb : Below W.heap.size W W') : Marks n₀ ds W' := h.mono fun D _ hD => (hb.block _ (Array.getElem?_eq_some_iff.1 hD).1).trans hD
theorem Marks.lt {n₀ : Nat} : ∀ {ds : List Deferred} {W : World}, Marks n₀ ds W → ∀ d ∈ ds, ∀ D, d = { target := .collected D, args := #[] } → D < W.heap.size
 | [], _, _, _, hd, _, _ => absurd hd (by simp)
 | d :: ds, W, h, d', hd, D', he => by
  obtain ⟨⟨D, h1, h2, h3, h4⟩, h5⟩ := h
  rcases List.mem_cons.1 hd with rfl | hd
  · rw [h1] at he
    injection he with he
    injection he with he
    subst he
    exact (Array.getElem?_eq_some_iff.1 h3).1
  · exact h5.lt d' hd D' he
theorem Marks.cons {n₀ : Nat} {ds : List Deferred} {W W' : World} {D : Nat} (h : Marks n₀ ds W') (h0 : Marks n₀ ds W) (hD : W.heap.size ≤ D) (hn : n₀ ≤ D) (hW : W'.heap[D]? = some (.deferred (some []))) : Marks n₀ ({ target := .collected D, args := #[] } :: ds) W' :=
 ⟨⟨D, rfl, hn, hW, fun d' hd D' he => Nat.lt_of_lt_of_le (h0.lt d' hd D' he) hD⟩, h⟩
theorem Marks.mono' {n₀ : Nat} : ∀ {ds : List Deferred} {W W' : World}, Marks n₀ ds W → (∀ d ∈ ds, ∀ D, d = { target := .collected D, args := #[] } → W.heap[D]? = some (.deferred (some [])) → W'.heap[D]? = some (.deferred (some []))) → Marks n₀ ds W'
 | [], _, _, _, _ => trivial
 | d :: ds, W, W', h, hk => by
  obtain ⟨⟨D, h1, h2, h3, h4⟩, h5⟩ := h
  exact ⟨⟨D, h1, h2, hk d (List.mem_cons_self) D h1 h3, h4⟩, h5.mono' fun d' hd => hk d' (List.mem_cons_of_mem _ hd)⟩
theorem leaves_marks {F : Fence} {n : Nat} {P : Program} {fn : Func} {tmps : Array Value} {R : Ending → World → Prop} {n₀ : Nat} : ∀ (ds : List Deferred) (W : World), Marks n₀ ds W →
  (∀ W', Below n₀ W W' → (∀ (g : Nat) (o : Obj), W.heap[g]? = some o → (∀ c, o ≠ Obj.deferred c) → W'.heap[g]? = some o) → ∃ v, (results fn tmps).run P W' = .ok v W' ∧ R (.returned v) W') → LeavesInM F n P fn tmps R ds .returning W
 | [], W, _, h => h W (Below.refl _ _) (fun _ _ hg _ => hg)
 | d :: ds, W, hm, h => by
  obtain ⟨⟨D, rfl, h2, h3, h4⟩, h5⟩ := hm
  have hlt := (Array.getElem?_eq_some_iff.1 h3).1
  refine ⟨by simp, .inl ⟨D, W.putObj D (Obj.deferred none), rfl, run_takeDeferred h3, ?_⟩⟩
  have hb : Below n₀ W (W.putObj D (Obj.deferred none)) := (Below.refl n₀ W).grown (grownBy_putObj' W D (Obj.deferred none)) (by omega) (fun k e => by cases e; omega)
  refine leaves_marks ds _ ?_ (fun W' hb' hk => h W' (hb.trans hb') (fun g o hg ho => hk g o ?_ ho))
  · refine Marks.mono' h5 (fun d' hd D' he hD' => ?_)
    rw [World.putObj_heap_other (by have := h4 d' hd D' he; omega)]
    exact hD'
  · rw [World.putObj_heap_other (fun e => by subst e; rw [h3] at hg; exact ho _ (Option.some.inj hg).symm)]
    exact hg
/-- A body that ends by a return, marks and all. -/
def postR (P : Program) (fn : Func) (R : Ending → World → Prop) : Exit → Act → World → Prop
 | .ret, a, w => LeavesInM Fence.wide 3 P fn a.tmps R a.defers .returning w
 | _, _, _ => False
theorem calls_of_wp_marks {P : Program} {f : FuncId} {fn : Func} {c : Code} {args : Array Value} {w : World} {R : Ending → World → Prop}
  (hf : P.funcs[f]? = some fn) (hb : fn.body = some c) (h : c.wp P (postR P fn R) { tmps := args ++ Array.replicate (fn.ntmps - args.size) undef, defers := [] } w) : Calls P f args w R := by
 refine (callsIn_wide (n := 3)).1 (callsIn_of_wp_marks hf hb trivial ?_ rfl)
 refine wpIn_mono (wpIn_wide.2 h) fun e a w h => ?_
 cases e <;> first | exact h | exact h.elim

end Go.Proofs.Ytkocigldchiifaa.H
