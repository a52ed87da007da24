/- A loop over moves whose body writes one box. -/
import Derived.RangeFuncNested
import Derived.RangeFuncBound
import Derived.RangeFuncCalls
import Derived.RangeFuncLeaves
import Derived.RangeFuncBox
import Derived.RangeFuncWrites
import Derived.Shelf.Abstract
import Derived.Shelf.RegionOpen
import Derived.WalkKit
import Derived.OwnWalkIn
import Derived.TacticsInMore
import Derived.LoopNIn
import Derived.LoopIn
import Derived.Maps.AppendAt
import Derived.Carry
import Derived.Test.YtkocigldchiifaaH5
import Derived.Test.YtkocigldchiifaaP0
import Derived.Test.YtkocigldchiifaaD0
namespace Go.Proofs.Ytkocigldchiifaa.H
open Go.RowKit Go.Proofs.YtkocigldchiifaaW.PrintWords Go.Proofs.YtkocigldchiifaaW.PrintLast Go.Proofs.YtkocigldchiifaaW.PrintMore
open Go.Shelf Go.Proofs.Ytkocigldchiifaa.QA
attribute [local go_sem] Oper.semAt_some
set_option linter.unusedVariables false
set_option linter.unusedSimpArgs false


theorem blk_lt2 {W : World} {g : Nat} {o : Obj} (h : W.heap[g]? = some o) : g < W.heap.size := (Array.getElem?_eq_some_iff.1 h).1
theorem blk_below2 {W W' : World} (hb : Below W.heap.size W W') {g : Nat} {o : Obj} (h : W.heap[g]? = some o) : W'.heap[g]? = some o := (hb.block g (blk_lt2 h)).trans h
theorem callsIn_round {l n : Nat} {P : Program} {f : FuncId} {args : Array Value} {w : World} {R : Ending → World → Prop} (h : Calls P f args w R) : CallsIn (Fence.wide.inRound l) n P f args w R := (callsIn_wide (n := n)).2 h
/-- Of what lay in wl nothing has turned but box B, which holds v. -/
structure At1 (wl W : World) (B : Nat) (t : TypeId) (v : Value) : Prop where
 low : Below 0 wl W
 but : ∀ g, g < wl.heap.size → g ≠ B → W.heap[g]? = wl.heap[g]?
 cell : Boxed W B t v
section
variable {wl W W2 : World} {B Bt n₀ : Nat} {t : TypeId} {v u : Value}
theorem At1.start (h : Boxed wl B t v) : At1 wl wl B t v := ⟨Below.refl _ _, fun _ _ _ => rfl, h⟩
theorem At1.blk {g : Nat} {o : Obj} (h : At1 wl W B t v) (hg : wl.heap[g]? = some o) (hne : g ≠ B) : W.heap[g]? = some o := (h.but g (blk_lt2 hg) hne).trans hg
theorem At1.own {β : Type} (F : β → Value) (hB : B < wl.heap.size) : OwnFrom wl.heap.size (fun (s : β) W => At1 wl W B t (F s)) := fun s X Y row hs hg hr =>
 ⟨hs.low.grown hg (Nat.zero_le _) (fun k e => Nat.zero_le _), fun g hlt hne => (hg.block g (Nat.lt_of_lt_of_le hlt hs.low.size) (fun e => by have := (hr g e.symm).1; omega)).trans (hs.but g hlt hne),
  hs.cell.kept hg (fun e => by have := (hr B e.symm).1; omega)⟩
theorem At1.below (h : At1 wl W B t v) (hb : Below W.heap.size W W2) : At1 wl W2 B t v :=
 ⟨h.low.trans (hb.mono (Nat.zero_le _)), fun g hlt hne => (hb.block g (Nat.lt_of_lt_of_le hlt h.low.size)).trans (h.but g hlt hne), (hb.block _ h.cell.lt).trans h.cell⟩
theorem At1.lower {n : Nat} (h : At1 wl W B t v) (hn : n ≤ B) (hB : B < wl.heap.size) : Below n wl W := ⟨h.low.os, h.low.tape, h.low.output, h.low.size, fun k hk => h.but k (by omega) (by omega)⟩
theorem At1.set (h : At1 wl W B t v) (u : Value) : At1 wl (W.setCell ⟨B, 0, none⟩ u) B t u :=
 ⟨h.low.trans (((Below.refl 0 W).setCell (p := ⟨B, 0, none⟩) (Nat.zero_le _) u)), fun g hlt hne => by rw [Below.heap_setCell _ _ _ _ hne]; exact h.but g hlt hne, h.cell.set u⟩
theorem ptr_boxed (h : Boxed W B t v) : ptrAt W B = v.ownBlock := by
 unfold ptrAt
 rw [h.cell]
theorem KpM.quiet (hb : Below W.heap.size W W2) (hn : n₀ ≤ W.heap.size) (hB : B < W.heap.size) : KpM n₀ Bt B W W2 :=
 ⟨hb.mono hn, fun cs t fz hg => blk_below2 hb hg, fun g cs hg _ => blk_below2 hb hg, fun g e => .inl ((ptr_below hb hB).symm.trans e)⟩
theorem KpM.set (h : Boxed W B t v) (ht : t ≠ 25) (hBt : Bt ≠ B) (hn : n₀ ≤ B) (hu : u.ownBlock = none) : KpM n₀ Bt B W (W.setCell ⟨B, 0, none⟩ u) :=
 ⟨(Below.refl n₀ W).setCell (p := ⟨B, 0, none⟩) hn u, fun cs t fz hg => by rw [Below.heap_setCell _ _ _ _ hBt]; exact hg, fun g cs hg _ => by
   rw [Below.heap_setCell _ _ _ _ (fun e => by subst e; rw [show W.heap[_]? = _ from h] at hg; injection hg with hg; injection hg with _ hg; exact ht hg)]
   exact hg, fun g e => by rw [ptr_boxed (h.set u), hu] at e; cases e⟩
theorem quiet_pays (hA : At1 wl W B t v) (hB : B < wl.heap.size) (hn : n₀ ≤ B) (hb : Below W.heap.size W W2) : KeepsFrom wl.heap.size W W2 ∧ KpM n₀ Bt B W W2 ∧ At1 wl W2 B t v :=
 ⟨⟨hb.size, fun k o _ hk _ => blk_below2 hb hk⟩, KpM.quiet hb (by have := hA.cell.lt; omega) hA.cell.lt, hA.below hb⟩
theorem set_pays (hA : At1 wl W B t v) (hB : B < wl.heap.size) (hn : n₀ ≤ B) (hBt : Bt ≠ B) (ht : t ≠ 25) (hu : u.ownBlock = none) (hb : Below W.heap.size W W2) :
  KeepsFrom wl.heap.size W (W2.setCell ⟨B, 0, none⟩ u) ∧ KpM n₀ Bt B W (W2.setCell ⟨B, 0, none⟩ u) ∧ At1 wl (W2.setCell ⟨B, 0, none⟩ u) B t u := by
 obtain ⟨h1, h2, h3⟩ := quiet_pays (Bt := Bt) hA hB hn hb
 exact ⟨h1.trans ((KeepsOthers.setCell _ _ _).from _), h2.trans' (KpM.set h3.cell ht hBt hn hu), h3.set u⟩
theorem set_pays2 {W3 : World} (hA : At1 wl W B t v) (hB : B < wl.heap.size) (hn : n₀ ≤ B) (hBt : Bt ≠ B) (ht : t ≠ 25) (hu : u.ownBlock = none) (hb : Below (W.setCell ⟨B, 0, none⟩ u).heap.size (W.setCell ⟨B, 0, none⟩ u) W3) :
  KeepsFrom wl.heap.size W W3 ∧ KpM n₀ Bt B W W3 ∧ At1 wl W3 B t u := by
 obtain ⟨h1, h2, h3⟩ := set_pays hA hB hn hBt ht hu (Below.refl _ W)
 obtain ⟨k1, k2, k3⟩ := quiet_pays (Bt := Bt) h3 hB hn hb
 exact ⟨h1.trans k1, h2.trans' k2, k3⟩
end

end Go.Proofs.Ytkocigldchiifaa.H
