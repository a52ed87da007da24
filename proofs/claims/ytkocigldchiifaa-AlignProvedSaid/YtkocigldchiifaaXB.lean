/- Texts P0, D0, R0, H6, P2, P1, H7 of this chapter, one behind the other. -/
import Derived.Carry
import Derived.Deep.LoopGhost
import Derived.LoopIn
import Derived.LoopNIn
import Derived.Maps.AppendAt
import Derived.OwnWalkIn
import Derived.RangeFuncBound
import Derived.RangeFuncBox
import Derived.RangeFuncCalls
import Derived.RangeFuncLeaves
import Derived.RangeFuncNested
import Derived.RangeFuncWrites
import Derived.Shelf.Abstract
import Derived.Shelf.RegionOpen
import Derived.TacticsInMore
import Derived.WalkKit
import Derived.Test.YtkocigldchiifaaXA

/- What is reckoned pair by pair, from the last one on. -/
namespace Go.Proofs.Ytkocigldchiifaa.H
open Go.RowKit Go.Proofs.YtkocigldchiifaaW.PrintWords Go.Proofs.YtkocigldchiifaaW.PrintLast Go.Proofs.YtkocigldchiifaaW.PrintMore
open Go.Shelf Go.Proofs.Ytkocigldchiifaa.QA
set_option linter.unusedVariables false
set_option linter.unusedSimpArgs false


/-- Row by row from the end: each number out of those that moves lead to. -/
def dpRow (h : Nat → List Int → Int) (p : Option (Nat → Int)) : Nat → Int
 | 0 => h 0 (match p with | none => [] | some q => [q 0])
 | v + 1 => h (v + 1) (match p with | none => [dpRow h p v] | some q => [q v, q (v + 1), dpRow h p v])
def dp (h : Nat → Nat → List Int → Int) : Nat → Nat → Int
 | 0 => dpRow (h 0) none
 | u + 1 => dpRow (h (u + 1)) (some (dp h u))
def dpI (h : Nat → Nat → List Int → Int) (a b : List S59) (i k : Int) : Int := dp h ((a.length : Int) - 1 - i).toNat ((b.length : Int) - 1 - k).toNat
theorem moves_eq (a b : List S59) (i k : Int) (hi : 0 ≤ i ∧ i < a.length) (hk : 0 ≤ k ∧ k < b.length) :
  movesOf a b i k = (if i + 1 < a.length ∧ k + 1 < b.length then [⟨i + 1, k + 1⟩] else []) ++ ((if i + 1 < a.length then [⟨i + 1, k⟩] else []) ++ (if k + 1 < b.length then [⟨i, k + 1⟩] else [])) := by
 have e1 : hasP a b (i + 1) (k + 1) = decide (i + 1 < a.length ∧ k + 1 < b.length) := by
  rw [Bool.eq_iff_iff, hasP_iff]; simp; omega
 have e2 : hasP a b (i + 1) k = decide (i + 1 < a.length) := by
  rw [Bool.eq_iff_iff, hasP_iff]; simp; omega
 have e3 : hasP a b i (k + 1) = decide (k + 1 < b.length) := by
  rw [Bool.eq_iff_iff, hasP_iff]; simp; omega
 simp only [movesOf, movesTo, cand]
 simp only [List.take_succ_cons, List.take_zero, List.filter_cons, List.filter_nil, e1, e2, e3, decide_eq_true_eq]
 split <;> split <;> split <;> simp
theorem dp_eq (h : Nat → Nat → List Int → Int) (a b : List S59) (i k : Int) (hi : 0 ≤ i ∧ i < a.length) (hk : 0 ≤ k ∧ k < b.length) :
  dpI h a b i k = h ((a.length : Int) - 1 - i).toNat ((b.length : Int) - 1 - k).toNat ((movesOf a b i k).map fun q => dpI h a b q.f0 q.f1) := by
 rw [moves_eq a b i k hi hk]
 obtain ⟨u, hu⟩ : ∃ u, u = ((a.length : Int) - 1 - i).toNat := ⟨_, rfl⟩
 obtain ⟨v, hv⟩ : ∃ v, v = ((b.length : Int) - 1 - k).toNat := ⟨_, rfl⟩
 have e1 : ∀ x : Int, dpI h a b (i + 1) x = dp h (u - 1) ((b.length : Int) - 1 - x).toNat := fun x => by unfold dpI; congr 1; omega
 have e2 : ∀ x : Int, dpI h a b x (k + 1) = dp h ((a.length : Int) - 1 - x).toNat (v - 1) := fun x => by unfold dpI; congr 1; omega
 have e3 : dpI h a b (i + 1) (k + 1) = dp h (u - 1) (v - 1) := by rw [e1]; congr 1; omega
 have e4 : dpI h a b (i + 1) k = dp h (u - 1) v := by rw [e1, hv]
 have e5 : dpI h a b i (k + 1) = dp h u (v - 1) := by rw [e2, hu]
 have e6 : dpI h a b i k = dp h u v := by unfold dpI; rw [hu, hv]
 rw [e6, ← hu, ← hv]
 cases u with
 | zero =>
  rw [if_neg (by omega), if_neg (by omega)]
  cases v with
  | zero => rw [if_neg (by omega)]; rfl
  | succ v =>
   rw [if_pos (by omega)]
   show dpRow _ none (v + 1) = _
   simp only [List.nil_append, List.map_cons, List.map_nil, e5]
   rfl
 | succ u =>
  cases v with
  | zero =>
   rw [if_neg (by omega), if_pos (by omega), if_neg (by omega)]
   show dpRow _ (some (dp h u)) 0 = _
   simp only [List.nil_append, List.append_nil, List.map_cons, List.map_nil, e4]
   rfl
  | succ v =>
   rw [if_pos (by omega), if_pos (by omega), if_pos (by omega)]
   show dpRow _ (some (dp h u)) (v + 1) = _
   simp only [List.cons_append, List.nil_append, List.map_cons, List.map_nil, e3, e4, e5]
   rfl
/-- The distance of a pair, told from the end. -/
def dEnd (a b : List S59) (u v : Nat) : Int := farD (rd_T59 a ((a.length : Int) - 1 - u)) (rd_T59 b ((b.length : Int) - 1 - v))
theorem dEnd_eq (a b : List S59) (i k : Int) (hi : 0 ≤ i ∧ i < a.length) (hk : 0 ≤ k ∧ k < b.length) : dEnd a b ((a.length : Int) - 1 - i).toNat ((b.length : Int) - 1 - k).toNat = farD (rd_T59 a i) (rd_T59 b k) := by
 unfold dEnd
 congr 2 <;> omega
def restH (a b : List S59) (u v : Nat) (l : List Int) : Int := mx (l.foldl min (if u = 0 ∧ v = 0 then 0 else 1000000)) (dEnd a b u v)
/-- The smallest height of the walks from a pair on. -/
def restI (a b : List S59) (i k : Int) : Int := dpI (restH a b) a b i k
theorem rest_eq (a b : List S59) (i k : Int) (hi : 0 ≤ i ∧ i < a.length) (hk : 0 ≤ k ∧ k < b.length) :
  restI a b i k = mx ((movesOf a b i k).foldl (fun m q => min m (restI a b q.f0 q.f1)) (if i = (a.length : Int) - 1 ∧ k = (b.length : Int) - 1 then 0 else 1000000)) (farD (rd_T59 a i) (rd_T59 b k)) := by
 unfold restI
 rw [dp_eq _ a b i k hi hk]
 unfold restH
 rw [dEnd_eq a b i k hi hk, List.foldl_map]
 congr 2
 by_cases h : i = (a.length : Int) - 1 ∧ k = (b.length : Int) - 1
 · rw [if_pos h, if_pos (by omega)]
 · rw [if_neg h, if_neg (by omega)]
theorem rd_good {l : List S59} (h : ∀ x ∈ l, goodB x = true) (i : Int) (hi : 0 ≤ i ∧ i < l.length) : goodB (rd_T59 l i) = true := by
 unfold rd_T59
 rw [List.getD_eq_getElem?_getD, List.getElem?_eq_getElem (show i.toNat < l.length by omega)]
 exact h _ (List.getElem_mem _)
theorem foldl_min_in {α : Type} (f : α → Int) (l : List α) (x M : Int) (hx : 0 ≤ x ∧ x ≤ M) (h : ∀ q ∈ l, 0 ≤ f q ∧ f q ≤ M) : 0 ≤ l.foldl (fun m q => min m (f q)) x ∧ l.foldl (fun m q => min m (f q)) x ≤ M := by
 induction l generalizing x with
 | nil => exact hx
 | cons q l ih =>
  refine ih _ ?_ (fun q hq => h q (List.mem_cons_of_mem _ hq))
  have := h q List.mem_cons_self
  show 0 ≤ min x (f q) ∧ min x (f q) ≤ M
  omega
theorem moves_mem {a b : List S59} {i k : Int} {q : S25} (h : q ∈ movesOf a b i k) : hasP a b q.f0 q.f1 = true ∧ (q = ⟨i + 1, k + 1⟩ ∨ q = ⟨i + 1, k⟩ ∨ q = ⟨i, k + 1⟩) := by
 unfold movesOf movesTo cand at h
 obtain ⟨h1, h2⟩ := List.mem_filter.1 h
 refine ⟨h2, ?_⟩
 simpa using h1
theorem rest_in (a b : List S59) (hR : Rolls a b) : ∀ (n : Nat) (i k : Int), (0 ≤ i ∧ i < a.length) → (0 ≤ k ∧ k < b.length) → ((a.length : Int) - i) + ((b.length : Int) - k) ≤ n → 0 ≤ restI a b i k ∧ restI a b i k ≤ 1000000 := by
 intro n
 induction n with
 | zero => intro i k hi hk h; omega
 | succ n ih =>
  intro i k hi hk h
  rw [rest_eq a b i k hi hk]
  have hf := far_in (rd_good hR.ga i hi) (rd_good hR.gb k hk)
  have hm := foldl_min_in (fun q : S25 => restI a b q.f0 q.f1) (movesOf a b i k) (if i = (a.length : Int) - 1 ∧ k = (b.length : Int) - 1 then 0 else 1000000) 1000000 (by split <;> omega) (fun q hq => by
   obtain ⟨h1, h2⟩ := moves_mem hq
   obtain ⟨h3, h4⟩ := (hasP_iff a b _ _).1 h1
   refine ih _ _ h3 h4 ?_
   rcases h2 with rfl | rfl | rfl <;> simp only <;> omega)
  generalize (movesOf a b i k).foldl (fun m q => min m (restI a b q.f0 q.f1)) (if i = (a.length : Int) - 1 ∧ k = (b.length : Int) - 1 then 0 else 1000000) = y at hm ⊢
  unfold mx
  split <;> omega

end Go.Proofs.Ytkocigldchiifaa.H

/- The marks that loops over iterators leave among the deferred calls. -/
namespace Go.Proofs.Ytkocigldchiifaa.H
open Go.RowKit Go.Proofs.YtkocigldchiifaaW.PrintWords Go.Proofs.YtkocigldchiifaaW.PrintLast Go.Proofs.YtkocigldchiifaaW.PrintMore
open Go.Shelf Go.Proofs.Ytkocigldchiifaa.QA
attribute [local go_sem] Oper.semAt_some
set_option linter.unusedVariables false
set_option linter.unusedSimpArgs false


def Marks (n₀ : Nat) : List Deferred → World → Prop
 | [], _ => True
 | d :: ds, W => (∃ D, d = { target := .collected D, args := #[] } ∧ n₀ ≤ D ∧ W.heap[D]? = some (.deferred (some [])) ∧ ∀ d' ∈ ds, ∀ D', d' = { target := .collected D', args := #[] } → D' < D) ∧ Marks n₀ ds W
theorem Marks.mono {n₀ : Nat} : ∀ {ds : List Deferred} {W W' : World}, Marks n₀ ds W → (∀ D, n₀ ≤ D → W.heap[D]? = some (.deferred (some [])) → W'.heap[D]? = some (.deferred (some []))) → Marks n₀ ds W'
 | [], _, _, _, _ => trivial
 | d :: ds, W, W', h, hk => by
  obtain ⟨⟨D, h1, h2, h3, h4⟩, h5⟩ := h
  exact ⟨⟨D, h1, h2, hk D h2 h3, h4⟩, h5.mono hk⟩
theorem Marks.below {n₀ : Nat} {ds : List Deferred} {W W' : World} (h : Marks n₀ ds W) (hb : Below W.heap.size W W') : Marks n₀ ds W' := h.mono fun D _ hD => (hb.block _ (Array.getElem?_eq_some_iff.1 hD).1).trans hD
theorem Marks.lt {n₀ : Nat} : ∀ {ds : List Deferred} {W : World}, Marks n₀ ds W → ∀ d ∈ ds, ∀ D, d = { target := .collected D, args := #[] } → D < W.heap.size
 | [], _, _, _, hd, _, _ => absurd hd (by simp)
 | d :: ds, W, h, d', hd, D', he => by
  obtain ⟨⟨D, h1, h2, h3, h4⟩, h5⟩ := h
  rcases List.mem_cons.1 hd with rfl | hd
  · rw [h1] at he
    injection he with he
    injection he with he
    subst he
    exact (Array.getElem?_eq_some_iff.1 h3).1
  · exact h5.lt d' hd D' he
theorem Marks.cons {n₀ : Nat} {ds : List Deferred} {W W' : World} {D : Nat} (h : Marks n₀ ds W') (h0 : Marks n₀ ds W) (hD : W.heap.size ≤ D) (hn : n₀ ≤ D) (hW : W'.heap[D]? = some (.deferred (some []))) : Marks n₀ ({ target := .collected D, args := #[] } :: ds) W' :=
 ⟨⟨D, rfl, hn, hW, fun d' hd D' he => Nat.lt_of_lt_of_le (h0.lt d' hd D' he) hD⟩, h⟩
theorem Marks.mono' {n₀ : Nat} : ∀ {ds : List Deferred} {W W' : World}, Marks n₀ ds W → (∀ d ∈ ds, ∀ D, d = { target := .collected D, args := #[] } → W.heap[D]? = some (.deferred (some [])) → W'.heap[D]? = some (.deferred (some []))) → Marks n₀ ds W'
 | [], _, _, _, _ => trivial
 | d :: ds, W, W', h, hk => by
  obtain ⟨⟨D, h1, h2, h3, h4⟩, h5⟩ := h
  exact ⟨⟨D, h1, h2, hk d (List.mem_cons_self) D h1 h3, h4⟩, h5.mono' fun d' hd => hk d' (List.mem_cons_of_mem _ hd)⟩
theorem leaves_marks {F : Fence} {n : Nat} {P : Program} {fn : Func} {tmps : Array Value} {R : Ending → World → Prop} {n₀ : Nat} : ∀ (ds : List Deferred) (W : World), Marks n₀ ds W →
  (∀ W', Below n₀ W W' → (∀ (g : Nat) (o : Obj), W.heap[g]? = some o → (∀ c, o ≠ Obj.deferred c) → W'.heap[g]? = some o) → ∃ v, (results fn tmps).run P W' = .ok v W' ∧ R (.returned v) W') → LeavesInM F n P fn tmps R ds .returning W
 | [], W, _, h => h W (Below.refl _ _) (fun _ _ hg _ => hg)
 | d :: ds, W, hm, h => by
  obtain ⟨⟨D, rfl, h2, h3, h4⟩, h5⟩ := hm
  have hlt := (Array.getElem?_eq_some_iff.1 h3).1
  refine ⟨by simp, .inl ⟨D, W.putObj D (Obj.deferred none), rfl, run_takeDeferred h3, ?_⟩⟩
  have hb : Below n₀ W (W.putObj D (Obj.deferred none)) := (Below.refl n₀ W).grown (grownBy_putObj' W D (Obj.deferred none)) (by omega) (fun k e => by cases e; omega)
  refine leaves_marks ds _ ?_ (fun W' hb' hk => h W' (hb.trans hb') (fun g o hg ho => hk g o ?_ ho))
  · refine Marks.mono' h5 (fun d' hd D' he hD' => ?_)
    rw [World.putObj_heap_other (by have := h4 d' hd D' he; omega)]
    exact hD'
  · rw [World.putObj_heap_other (fun e => by subst e; rw [h3] at hg; exact ho _ (Option.some.inj hg).symm)]
    exact hg
/-- A body that ends by a return, marks and all. -/
def postR (P : Program) (fn : Func) (R : Ending → World → Prop) : Exit → Act → World → Prop
 | .ret, a, w => LeavesInM Fence.wide 3 P fn a.tmps R a.defers .returning w
 | _, _, _ => False
theorem calls_of_wp_marks {P : Program} {f : FuncId} {fn : Func} {c : Code} {args : Array Value} {w : World} {R : Ending → World → Prop}
  (hf : P.funcs[f]? = some fn) (hb : fn.body = some c) (h : c.wp P (postR P fn R) { tmps := args ++ Array.replicate (fn.ntmps - args.size) undef, defers := [] } w) : Calls P f args w R := by
 refine (callsIn_wide (n := 3)).1 (callsIn_of_wp_marks hf hb trivial ?_ rfl)
 refine wpIn_mono (wpIn_wide.2 h) fun e a w h => ?_
 cases e <;> first | exact h | exact h.elim

end Go.Proofs.Ytkocigldchiifaa.H

/- A loop over moves whose body writes one box. -/
namespace Go.Proofs.Ytkocigldchiifaa.H
open Go.RowKit Go.Proofs.YtkocigldchiifaaW.PrintWords Go.Proofs.YtkocigldchiifaaW.PrintLast Go.Proofs.YtkocigldchiifaaW.PrintMore
open Go.Shelf Go.Proofs.Ytkocigldchiifaa.QA
attribute [local go_sem] Oper.semAt_some
set_option linter.unusedVariables false
set_option linter.unusedSimpArgs false


theorem blk_lt2 {W : World} {g : Nat} {o : Obj} (h : W.heap[g]? = some o) : g < W.heap.size := (Array.getElem?_eq_some_iff.1 h).1
theorem blk_below2 {W W' : World} (hb : Below W.heap.size W W') {g : Nat} {o : Obj} (h : W.heap[g]? = some o) : W'.heap[g]? = some o := (hb.block g (blk_lt2 h)).trans h
theorem callsIn_round {l n : Nat} {P : Program} {f : FuncId} {args : Array Value} {w : World} {R : Ending → World → Prop} (h : Calls P f args w R) : CallsIn (Fence.wide.inRound l) n P f args w R := (callsIn_wide (n := n)).2 h
/-- Of what lay in wl nothing has turned but box B, which holds v. -/
structure At1 (wl W : World) (B : Nat) (t : TypeId) (v : Value) : Prop where
 low : Below 0 wl W
 but : ∀ g, g < wl.heap.size → g ≠ B → W.heap[g]? = wl.heap[g]?
 cell : Boxed W B t v
section
variable {wl W W2 : World} {B Bt n₀ : Nat} {t : TypeId} {v u : Value}
theorem At1.start (h : Boxed wl B t v) : At1 wl wl B t v := ⟨Below.refl _ _, fun _ _ _ => rfl, h⟩
theorem At1.blk {g : Nat} {o : Obj} (h : At1 wl W B t v) (hg : wl.heap[g]? = some o) (hne : g ≠ B) : W.heap[g]? = some o := (h.but g (blk_lt2 hg) hne).trans hg
theorem At1.own {β : Type} (F : β → Value) (hB : B < wl.heap.size) : OwnFrom wl.heap.size (fun (s : β) W => At1 wl W B t (F s)) := fun s X Y row hs hg hr =>
 ⟨hs.low.grown hg (Nat.zero_le _) (fun k e => Nat.zero_le _), fun g hlt hne => (hg.block g (Nat.lt_of_lt_of_le hlt hs.low.size) (fun e => by have := (hr g e.symm).1; omega)).trans (hs.but g hlt hne),
  hs.cell.kept hg (fun e => by have := (hr B e.symm).1; omega)⟩
theorem At1.below (h : At1 wl W B t v) (hb : Below W.heap.size W W2) : At1 wl W2 B t v :=
 ⟨h.low.trans (hb.mono (Nat.zero_le _)), fun g hlt hne => (hb.block g (Nat.lt_of_lt_of_le hlt h.low.size)).trans (h.but g hlt hne), (hb.block _ h.cell.lt).trans h.cell⟩
theorem At1.lower {n : Nat} (h : At1 wl W B t v) (hn : n ≤ B) (hB : B < wl.heap.size) : Below n wl W := ⟨h.low.os, h.low.tape, h.low.output, h.low.size, fun k hk => h.but k (by omega) (by omega)⟩
theorem At1.set (h : At1 wl W B t v) (u : Value) : At1 wl (W.setCell ⟨B, 0, none⟩ u) B t u :=
 ⟨h.low.trans (((Below.refl 0 W).setCell (p := ⟨B, 0, none⟩) (Nat.zero_le _) u)), fun g hlt hne => by rw [Below.heap_setCell _ _ _ _ hne]; exact h.but g hlt hne, h.cell.set u⟩
theorem ptr_boxed (h : Boxed W B t v) : ptrAt W B = v.ownBlock := by
 unfold ptrAt
 rw [h.cell]
theorem KpM.quiet (hb : Below W.heap.size W W2) (hn : n₀ ≤ W.heap.size) (hB : B < W.heap.size) : KpM n₀ Bt B W W2 :=
 ⟨hb.mono hn, fun cs t fz hg => blk_below2 hb hg, fun g cs hg _ => blk_below2 hb hg, fun g e => .inl ((ptr_below hb hB).symm.trans e)⟩
theorem KpM.set (h : Boxed W B t v) (ht : t ≠ 25) (hBt : Bt ≠ B) (hn : n₀ ≤ B) (hu : u.ownBlock = none) : KpM n₀ Bt B W (W.setCell ⟨B, 0, none⟩ u) :=
 ⟨(Below.refl n₀ W).setCell (p := ⟨B, 0, none⟩) hn u, fun cs t fz hg => by rw [Below.heap_setCell _ _ _ _ hBt]; exact hg, fun g cs hg _ => by
   rw [Below.heap_setCell _ _ _ _ (fun e => by subst e; rw [show W.heap[_]? = _ from h] at hg; injection hg with hg; injection hg with _ hg; exact ht hg)]
   exact hg, fun g e => by rw [ptr_boxed (h.set u), hu] at e; cases e⟩
theorem quiet_pays (hA : At1 wl W B t v) (hB : B < wl.heap.size) (hn : n₀ ≤ B) (hb : Below W.heap.size W W2) : KeepsFrom wl.heap.size W W2 ∧ KpM n₀ Bt B W W2 ∧ At1 wl W2 B t v :=
 ⟨⟨hb.size, fun k o _ hk _ => blk_below2 hb hk⟩, KpM.quiet hb (by have := hA.cell.lt; omega) hA.cell.lt, hA.below hb⟩
theorem set_pays (hA : At1 wl W B t v) (hB : B < wl.heap.size) (hn : n₀ ≤ B) (hBt : Bt ≠ B) (ht : t ≠ 25) (hu : u.ownBlock = none) (hb : Below W.heap.size W W2) :
  KeepsFrom wl.heap.size W (W2.setCell ⟨B, 0, none⟩ u) ∧ KpM n₀ Bt B W (W2.setCell ⟨B, 0, none⟩ u) ∧ At1 wl (W2.setCell ⟨B, 0, none⟩ u) B t u := by
 obtain ⟨h1, h2, h3⟩ := quiet_pays (Bt := Bt) hA hB hn hb
 exact ⟨h1.trans ((KeepsOthers.setCell _ _ _).from _), h2.trans' (KpM.set h3.cell ht hBt hn hu), h3.set u⟩
theorem set_pays2 {W3 : World} (hA : At1 wl W B t v) (hB : B < wl.heap.size) (hn : n₀ ≤ B) (hBt : Bt ≠ B) (ht : t ≠ 25) (hu : u.ownBlock = none) (hb : Below (W.setCell ⟨B, 0, none⟩ u).heap.size (W.setCell ⟨B, 0, none⟩ u) W3) :
  KeepsFrom wl.heap.size W W3 ∧ KpM n₀ Bt B W W3 ∧ At1 wl W3 B t u := by
 obtain ⟨h1, h2, h3⟩ := set_pays hA hB hn hBt ht hu (Below.refl _ W)
 obtain ⟨k1, k2, k3⟩ := quiet_pays (Bt := Bt) h3 hB hn hb
 exact ⟨h1.trans k1, h2.trans' k2, k3⟩
end

end Go.Proofs.Ytkocigldchiifaa.H

/- (*table).rests: a map, pair by pair from the last one on. -/
namespace Go.Proofs.Ytkocigldchiifaa.H
open Go.RowKit Go.Proofs.YtkocigldchiifaaW.PrintWords Go.Proofs.YtkocigldchiifaaW.PrintLast Go.Proofs.YtkocigldchiifaaW.PrintMore
open Go.Shelf Go.Proofs.Ytkocigldchiifaa.QA
attribute [local go_sem] Oper.semAt_some
set_option linter.unusedVariables false
set_option linter.unusedSimpArgs false


/-- The state of a map that is filled pair by pair, from the last one on, down to the pair (i, k), which is still to be done. -/
structure Sr (V : Int → Int → Int) (w0 : World) (bm Bo : Nat) (a b : List S59) (ds : List Deferred) (i k : Int) (W : World) : Prop where
 below : Below w0.heap.size w0 W
 out : W.heap[Bo]? = some (.cells #[.map (some bm)] 87 (0, 0))
 mp : ∃ (n : Nat) (f : Int → Int → Option Int), MapF eI W bm n f ∧ (n : Int) ≤ 1000 * ((a.length : Int) - 1 - i) + ((b.length : Int) - 1 - k) ∧ (∀ x y, hasP a b x y = true → (x > i ∨ x = i ∧ y > k) → (f x y).getD 0 = V x y) ∧ ∀ x y, (x < i ∨ x = i ∧ y ≤ k) → f x y = none
 marks : Marks w0.heap.size ds W
theorem Sr.row {V : Int → Int → Int} {w0 W : World} {bm Bo : Nat} {a b : List S59} {ds : List Deferred} {i : Int} (hb : b.length ≤ 30) (h : Sr V w0 bm Bo a b ds i (-1) W) : Sr V w0 bm Bo a b ds (i - 1) ((b.length : Int) - 1) W := by
 obtain ⟨h1, h2, ⟨n, f, h3, h4, h5, h7⟩, h6⟩ := h
 refine ⟨h1, h2, ⟨n, f, h3, by omega, fun x y hx hxy => h5 x y hx ?_, fun x y hxy => h7 x y (by omega)⟩, h6⟩
 have := (hasP_iff a b x y).1 hx
 omega

theorem Sr.next {V : Int → Int → Int} {w0 wr w3 w4 : World} {bm Bo D n : Nat} {f : Int → Int → Option Int} {a b : List S59} {ds : List Deferred} {i k : Int} (h : Sr V w0 bm Bo a b ds i k wr) (hb : Below wr.heap.size wr w3)
  (hM : MapF eI w4 bm (n + 1) (upd f i k (V i k))) (hn : (n : Int) ≤ 1000 * ((a.length : Int) - 1 - i) + ((b.length : Int) - 1 - k)) (hf : (∀ x y, hasP a b x y = true → (x > i ∨ x = i ∧ y > k) → (f x y).getD 0 = V x y) ∧ ∀ x y, (x < i ∨ x = i ∧ y ≤ k) → f x y = none) (hg : w3.grownBy w4 (some bm))
  (hbm : w0.heap.size ≤ bm ∧ bm < wr.heap.size) (hBo : Bo < wr.heap.size ∧ Bo ≠ bm) (hD : wr.heap.size ≤ D) (hDf : w3.heap[D]? = some (.deferred (some []))) :
  Sr V w0 bm Bo a b ({ target := .collected D, args := #[] } :: ds) i (k - 1) w4 := by
 have e1 : ∀ (x : Nat) (o : Obj), x ≠ bm → w3.heap[x]? = some o → w4.heap[x]? = some o := fun x o hx ho => (hg.block x (blk_lt2 ho) (fun e => hx (by injection e))).trans ho
 have e2 : ∀ (x : Nat) (o : Obj), x ≠ bm → wr.heap[x]? = some o → w4.heap[x]? = some o := fun x o hx ho => e1 x o hx (blk_below2 hb ho)
 have hsz := h.below.size
 refine ⟨(h.below.trans (hb.mono hsz)).grown hg (by have := hb.size; omega) (fun x e => by injection e with e; omega), e2 Bo _ hBo.2 h.out, ⟨n + 1, _, hM, by push_cast; omega, fun x y hx hxy => ?_, fun x y hxy => ?_⟩, ?_⟩
 · unfold upd
   by_cases he : x = i ∧ y = k
   · obtain ⟨rfl, rfl⟩ := he
     simp
   · rw [if_neg he]
     exact hf.1 x y hx (by omega)
 · unfold upd
   rw [if_neg (by omega)]
   exact hf.2 x y (by omega)
 · have hm : Marks w0.heap.size ds w4 := h.marks.mono' fun d hd D' he hD' => by
    refine e2 D' _ (fun e => ?_) hD'
    subst e
    obtain ⟨n', f', h3, -⟩ := h.mp
    obtain ⟨_, _, ⟨es, clock, hbb, _⟩, _⟩ := h3
    rw [hbb] at hD'
    cases hD'
   exact hm.cons h.marks hD (by omega) (e1 D _ (by omega) hDf)
theorem Sr.skip {V : Int → Int → Int} {w0 wr w3 : World} {bm Bo : Nat} {a b : List S59} {ds : List Deferred} {i k : Int} (h : Sr V w0 bm Bo a b ds i k wr) (hb : Below wr.heap.size wr w3) (hV : V i k = 0) : Sr V w0 bm Bo a b ds i (k - 1) w3 := by
 obtain ⟨h1, h2, ⟨n, f, h3, h4, h5, h7⟩, h6⟩ := h
 refine ⟨h1.trans (hb.mono h1.size), blk_below2 hb h2, ⟨n, f, h3.below hb, by omega, fun x y hx hxy => ?_, fun x y hxy => h7 x y (by omega)⟩, h6.below hb⟩
 by_cases he : x = i ∧ y = k
 · obtain ⟨rfl, rfl⟩ := he
   rw [h7 x y (by omega), hV]
   rfl
 · exact h5 x y hx (by omega)
theorem map_step {P : Program} {ops : Array Oper} {o : Oper} {a : Act} {Q : Exit → Act → World → Prop} {Kc : Act → World → Prop} {W w1 : World} (hw : Region.wanted o (yielded ops a.tmps) = true) (hN : o.dst = none) (t : TypeId) (m x v : Operand) (hop : o.op = .mapUpdate t m x v)
  (hrun : (Instr.mapUpdate t (a.eval m) (a.eval x) (a.eval v)).run P W = .ok () w1) (h : Kc a w1) : if Region.wanted o (yielded ops a.tmps) = true then Oper.wp P o a W Kc Q else Kc (a.put none undef) W :=
 store_step hw hN (by simp [execOp, hop, hrun, Result.andThen]) h
def rests15_T : Bool × List (List Nat × List Nat) := (true, [([], []), ([], []), ([], []), ([], []), ([], []), ([3, 4], [3, 4]), ([2, 5], [2, 5]), ([0, 1, 6, 5, 0, 1, 2, 3, 4, 5, 6], [0, 1, 6])])
def rests15_B : List Nat := [0, 0, 0, 0, 0, 24, 60, 127]
theorem rests15_tab : rtab .any (opsOf Try.f50 15) = rests15_T := by kernel_rfl
theorem rests15_bits : waitsOk rests15_T.2 rests15_B = true := by kernel_rfl
theorem MapF.obj {E : Type} {X : Elem E} {w : World} {b n : Nat} {f : Int → Int → Option E} (h : MapF X w b n f) : ∃ es c, w.heap[b]? = some (.map es c) := by
 obtain ⟨D, h1, ⟨es, clock, hb, h2⟩, h3⟩ := h
 exact ⟨es, clock, hb⟩
attribute [local go_sem high] eqA25
attribute [local go_sem] max2_int min2_int max_two min_two max_three min_three max_four min_four
set_option maxRecDepth 100000 in
set_option maxHeartbeats 4000000 in
theorem rests_calls (g : Nat) (a b : List S59) (w : World) (hT : Tb w g a b) (hR : Rolls a b) :
  Calls Try.prog 50 #[.pointer (some ⟨g, 0, none⟩)] w fun e w' => ∃ bm n f, e = .returned (.map (some bm)) ∧ MapF eI w' bm n f ∧ w.heap.size ≤ bm ∧ (∀ x y, hasP a b x y = true → (f x y).getD 0 = restI a b x y) ∧ Below w.heap.size w w' := by
 have HT := Aside0.mk hT
 have HR := Aside0.mk hR
 obtain ⟨A0, c0, A1, c1, ht, -, -⟩ := hT
 have HTT := Aside0.mk ht
 have t2 : w.cell? ⟨g, 2, none⟩ = some (.int .i64 ((a.length : Int) - 1)) := (blk_cell ht 2).trans rfl
 have t3 : w.cell? ⟨g, 3, none⟩ = some (.int .i64 ((b.length : Int) - 1)) := (blk_cell ht 3).trans rfl
 have hg := blk_lt ht
 clear hR ht
 have hmm := @run_makeMap Try.prog
 refine calls_of_wp_marks Try.func50 rfl ?_
 simp only [Try.ntmps50, List.size_toArray, List.length_cons, List.length_nil, Nat.reduceAdd, Nat.reduceSub, Array.replicate_succ, Array.replicate_zero, List.push_toArray, List.append_toArray, List.nil_append, List.cons_append]
 go_wp2
 refine wp_loop_ghost_k (fun m a' w' => ∃ (i : Int) (u : Nat → Value) (ds : List Deferred), ((-1 ≤ i ∧ i < a.length) ∧ Aside0 (Sr (restI a b) w w.heap.size (w.heap.size + 1) a b ds i ((b.length : Int) - 1) w')) ∧ a' = { tmps := #[.pointer (some ⟨g, 0, none⟩), u 1, .map none, .pointer (some ⟨w.heap.size + 1, 0, none⟩), .int .i64 i, u 5, u 6, u 7, u 8, u 9, u 10, u 11, u 12, u 13, u 14, u 15, u 16, u 17, u 18, u 19, u 20, u 21, u 22, u 23, u 24, u 25, u 26, u 27, u 28, u 29, u 30, u 31, u 32, u 33, u 34, u 35, u 36, u 37, u 38, u 39, u 40, u 41, u 42, u 43, u 44, u 45, u 46, u 47, u 48, u 49, u 50, u 51, u 52, u 53, u 54], defers := ds } ∧ m = (i + 1).toNat) (((a.length : Int) - 1) + 1).toNat ?start ?round
 case start =>
  refine ⟨(a.length : Int) - 1, fun k => ([undef, _, undef, undef, undef, _, _, _, _, _, _, _, _, _, _, _, _, _, _, _, _, _, _, _, _, _, _, _, _, _, _, _, _, _, _, _, _, _, _, _, _, _, _, _, _, _, _, _, _, _, _, _, _, _, _] : List Value).getD k undef, _, ⟨by have := HR.out.ha; omega, ⟨?_⟩⟩, rfl, rfl⟩
  refine ⟨below_alloc (below_alloc (Below.refl _ _) _) _, by have := blk_new (w.alloc (.map #[] 0)) (.cells #[.map (some w.heap.size)] 87); simpa using this, ⟨0, _, (MapF.made w).below (below_alloc (Below.refl _ _) _), by omega, fun x y hx hxy => ?_, fun _ _ _ => rfl⟩, trivial⟩
  have := (hasP_iff a b x y).1 hx
  omega
 case round =>
  clear t2 t3 hg
  rintro m a' wr ⟨i, u, ds, ⟨hi, HS⟩, rfl, rfl⟩ J K hJ hK
  have HK := Aside0.mk hK
  have HJ := Aside0.mk hJ
  clear hK hJ
  have t3 : wr.cell? ⟨g, 3, none⟩ = some (.int .i64 ((b.length : Int) - 1)) := (blk_cell (blk_below HTT.out HS.out.below) 3).trans rfl
  have hlt : g < wr.heap.size := blk_lt (blk_below HTT.out HS.out.below)
  by_cases h0 : 0 ≤ i
  · have z0 : decide (i ≥ 0) = true := decide_eq_true h0
    go_wp2
    refine wp_loop_ghost_k (fun m a' w' => ∃ (k : Int) (u : Nat → Value) (ds : List Deferred), ((-1 ≤ k ∧ k < b.length) ∧ Aside0 (Sr (restI a b) w w.heap.size (w.heap.size + 1) a b ds i k w')) ∧ a' = { tmps := #[.pointer (some ⟨g, 0, none⟩), u 1, .map none, .pointer (some ⟨w.heap.size + 1, 0, none⟩), .int .i64 i, .int .i64 k, u 6, u 7, u 8, u 9, u 10, u 11, u 12, u 13, u 14, u 15, u 16, u 17, u 18, u 19, u 20, u 21, u 22, u 23, u 24, u 25, u 26, u 27, u 28, u 29, u 30, u 31, u 32, u 33, u 34, u 35, u 36, u 37, u 38, u 39, u 40, u 41, u 42, u 43, u 44, u 45, u 46, u 47, u 48, u 49, u 50, u 51, u 52, u 53, u 54], defers := ds } ∧ m = (k + 1).toNat) (((b.length : Int) - 1) + 1).toNat ?start ?round
    case start =>
     exact ⟨(b.length : Int) - 1, fun k => ([undef, _, undef, undef, undef, undef, _, _, _, _, _, _, _, _, _, _, _, _, _, _, _, _, _, _, _, _, _, _, _, _, _, _, _, _, _, _, _, _, _, _, _, _, _, _, _, _, _, _, _, _, _, _, _, _, _] : List Value).getD k undef, _, ⟨by have := HR.out.hb; omega, HS⟩, rfl, rfl⟩
    case round =>
     clear t3 HS hlt
     rintro m a' wr ⟨k, u, ds, ⟨hk, HS⟩, rfl, rfl⟩ J2 K2 hJ hK
     have HK2 := Aside0.mk hK
     have HJ2 := Aside0.mk hJ
     clear hK hJ
     by_cases h1 : 0 ≤ k
     · have z1 : decide (k ≥ 0) = true := decide_eq_true h1
       have t2 : wr.cell? ⟨g, 2, none⟩ = some (.int .i64 ((a.length : Int) - 1)) := (blk_cell (blk_below HTT.out HS.out.below) 2).trans rfl
       have t3 : wr.cell? ⟨g, 3, none⟩ = some (.int .i64 ((b.length : Int) - 1)) := (blk_cell (blk_below HTT.out HS.out.below) 3).trans rfl
       have hlt : g < wr.heap.size := blk_lt (blk_below HTT.out HS.out.below)
       have hlo : w.heap.size + 1 < wr.heap.size := blk_lt HS.out.out
       go_wp2
       have hsz : ((wr.alloc (Obj.cells #[Value.int IntKind.i64 i, Value.int IntKind.i64 k] 25)).alloc (Obj.cells #[Value.int IntKind.i64 1000000] 3)).heap.size = wr.heap.size + 2 := by simp
       have hbw := below_alloc (below_alloc (Below.refl wr.heap.size wr) (Obj.cells #[Value.int IntKind.i64 i, Value.int IntKind.i64 k] 25)) (Obj.cells #[Value.int IntKind.i64 1000000] 3)
       have hpb := blk_alloc (blk_new wr (Obj.cells #[Value.int IntKind.i64 i, Value.int IntKind.i64 k] 25)) (Obj.cells #[Value.int IntKind.i64 1000000] 3)
       have hbb := blk_new (wr.alloc (Obj.cells #[Value.int IntKind.i64 i, Value.int IntKind.i64 k] 25)) (Obj.cells #[Value.int IntKind.i64 1000000] 3)
       rw [World.size_alloc] at hbb
       generalize ((wr.alloc (Obj.cells #[Value.int IntKind.i64 i, Value.int IntKind.i64 k] 25)).alloc (Obj.cells #[Value.int IntKind.i64 1000000] 3)) = w1 at hsz hbw hpb hbb ⊢
       have p0 : w1.cell? ⟨wr.heap.size, 0, none⟩ = some (.int .i64 i) := (blk_cell hpb 0).trans rfl
       have p1 : w1.cell? ⟨wr.heap.size, 1, none⟩ = some (.int .i64 k) := (blk_cell hpb 1).trans rfl
       have q0 : w1.cell? ⟨wr.heap.size + 1, 0, none⟩ = some (.int .i64 1000000) := (blk_cell hbb 0).trans rfl
       have qf : w1.frozen? ⟨wr.heap.size + 1, 0, none⟩ = false := blk_frozen hbb 0
       replace t2 := pw_cell_below hbw t2
       replace t3 := pw_cell_below hbw t3
       have HBW := Aside0.mk hbw
       have HPB := Aside0.mk hpb
       have HBB := Aside0.mk hbb
       clear hbw hpb hbb hlt hlo
       generalize hz : ((i == (a.length : Int) - 1) && (k == (b.length : Int) - 1)) = zl
       cases zl with
       | true =>
        go_quiet (fail)
        go_wp2_with (go_at_call 52; refine (callsIn_wide.1 (moves_in 3 g i k _)).mono ?_; rintro e w2 ⟨rfl, rfl⟩)
        have hW0 : At1 w1 ((w1.drewN nq).setCell ⟨wr.heap.size + 1, 0, none⟩ (.int .i64 0)) (wr.heap.size + 1) 3 (.int .i64 0) := ((At1.start HBB.out).below (pw_below_drewN (Below.refl _ _) nq)).set _
        have hWL := hW0.below (below_alloc (below_alloc (Below.refl _ _) (Obj.cells #[Value.pointer (some ⟨g, 0, none⟩)] 80)) (Obj.cells #[Value.int IntKind.i64 i, Value.int IntKind.i64 k] 25))
        have hBt := blk_alloc (blk_new ((w1.drewN nq).setCell ⟨wr.heap.size + 1, 0, none⟩ (.int .i64 0)) (Obj.cells #[Value.pointer (some ⟨g, 0, none⟩)] 80)) (Obj.cells #[Value.int IntKind.i64 i, Value.int IntKind.i64 k] 25)
        have hBp := blk_new (((w1.drewN nq).setCell ⟨wr.heap.size + 1, 0, none⟩ (.int .i64 0)).alloc (Obj.cells #[Value.pointer (some ⟨g, 0, none⟩)] 80)) (Obj.cells #[Value.int IntKind.i64 i, Value.int IntKind.i64 k] 25)
        have hsl : ((((w1.drewN nq).setCell ⟨wr.heap.size + 1, 0, none⟩ (.int .i64 0)).alloc (Obj.cells #[Value.pointer (some ⟨g, 0, none⟩)] 80)).alloc (Obj.cells #[Value.int IntKind.i64 i, Value.int IntKind.i64 k] 25)).heap.size = wr.heap.size + 4 := by simp; omega
        have hs0 : ((w1.drewN nq).setCell ⟨wr.heap.size + 1, 0, none⟩ (.int .i64 0)).heap.size = wr.heap.size + 2 := by simp; omega
        rw [World.size_alloc] at hBp
        rw [hs0] at hBt hBp
        generalize ((((w1.drewN nq).setCell ⟨wr.heap.size + 1, 0, none⟩ (.int .i64 0)).alloc (Obj.cells #[Value.pointer (some ⟨g, 0, none⟩)] 80)).alloc (Obj.cells #[Value.int IntKind.i64 i, Value.int IntKind.i64 k] 25)) = wl at hWL hBt hBp hsl ⊢
        clear hW0 hs0
        have hbl : Below wr.heap.size wr wl := HBW.out.trans (hWL.lower (by omega) (by omega))
        have hBO : Boxed wl (wr.heap.size + 1) 3 (.int .i64 0) := hWL.cell
        have HPL := Aside0.mk (hWL.blk HPB.out (by omega))
        obtain ⟨n, f, hM, hn, hf⟩ := HS.out.mp
        have HMF := Aside0.mk (And.intro hM (And.intro hn hf))
        have HBL := Aside0.mk hbl
        have HSL := Aside0.mk hsl
        have hlo : w.heap.size + 1 < wr.heap.size := blk_lt HS.out.out
        have hbm : w.heap.size < wr.heap.size := by omega
        clear hM hn hf p0 p1 q0 qf t2 t3 hWL
        have hBox : wr.heap.size + 1 < wl.heap.size := by omega
        refine (wpIn_wide (n := 3)).1 ?_
        refine wpIn_rangeFunc_ownH rfl (by omega) (gf := 72) (lb := #[.pointer (some ⟨wr.heap.size + 2 + 1, 0, none⟩), .pointer (some ⟨wr.heap.size + 2, 0, none⟩)]) rfl trivial (enters_of Try.func72 (by kernel_rfl) rfl)
         (moves_stops _ (by omega) (wr.heap.size + 2 + 1) (wr.heap.size + 2) (wr.heap.size + 1) g w.heap.size a b i k wl ((blk_cell hBp 0).trans rfl) ((blk_cell hBp 1).trans rfl) hBt (fun W' hb => HT.out.below ((HS.out.below.trans (hbl.mono HS.out.below.size)).trans hb)) (by omega) hBox ((ptr_boxed hBO).trans rfl) (by have := HR.out.ha; omega) (by have := HR.out.hb; omega)) KpM.trans' (KpM.putObj (by omega) hBox) (Below.refl _ _) (fun _ => rfl)
         (fun pre W => At1 wl W (wr.heap.size + 1) 3 (.int .i64 (pre.foldl (fun m (q : {q : S25 // q ∈ movesOf a b i k}) => min m (restI a b q.1.f0 q.1.f1)) 0)))
         (fun _ _ _ => False)
         (At1.own (fun pre : List {q : S25 // q ∈ movesOf a b i k} => (.int .i64 (pre.foldl (fun m (q : {q : S25 // q ∈ movesOf a b i k}) => min m (restI a b q.1.f0 q.1.f1)) 0))) hBox)
         (fun _ _ _ _ _ hs _ _ => hs)
         (At1.start hBO)
         (fun x a' W => ∃ (u : Nat → Value) (Bq : Nat), a' = { tmps := #[u 0, u 1, u 2, .pointer (some ⟨w.heap.size + 1, 0, none⟩), u 4, u 5, u 6, .pointer (some ⟨wr.heap.size + 1, 0, none⟩), .pointer (some ⟨Bq, 0, none⟩), u 9, u 10, u 11, u 12, u 13, u 14, u 15, u 16, u 17, u 18, u 19, u 20, u 21, u 22, u 23, u 24, u 25, u 26, u 27, u 28, u 29, u 30, u 31, u 32, u 33, u 34, u 35, u 36, u 37, u 38, u 39, u 40, u 41, u 42, u 43, u 44, u 45, u 46, u 47, u 48, u 49, u 50, u 51, u 52, u 53, u 54], defers := [] } ∧ W.heap[Bq]? = some (.cells #[.int .i64 x.1.f0, .int .i64 x.1.f1] 25 (0, 0)))
         (fun x a' _ X Y row hs hg hr => by
          obtain ⟨u, Bq, h1, h2⟩ := hs
          exact ⟨u, Bq, h1, (hg.block Bq (blk_lt2 h2) (fun e => by obtain ⟨_, o, ho, hc⟩ := hr Bq e.symm; rw [h2] at ho; cases ho; cases hc)).trans h2⟩) ?assignT ?bodyT ?doneT ?stopT
        case stopT =>
         rintro D c pre W _ _ h _
         exact h.elim
        case assignT =>
         intro l pre x W K hI hK
         gi_wp2
         obtain ⟨h1, h2, h3⟩ := quiet_pays (Bt := wr.heap.size + 2) (n₀ := w.heap.size) hI hBox (by omega) (below_alloc (Below.refl W.heap.size W) (Obj.cells #[Value.int IntKind.i64 x.1.f0, Value.int IntKind.i64 x.1.f1] 25))
         exact hK _ _ h1 h2 h3 ⟨fun k => ([_, _, _, undef, _, _, _, undef, undef, _, _, _, _, _, _, _, _, _, _, _, _, _, _, _, _, _, _, _, _, _, _, _, _, _, _, _, _, _, _, _, _, _, _, _, _, _, _, _, _, _, _, _, _, _, _] : List Value).getD k undef, _, rfl, blk_new _ _⟩
        case bodyT =>
         rintro l pre x a' W hl _ hI ⟨u, Bq, rfl, hq⟩ hlt
         have hbW : Below wr.heap.size wr W := HBL.out.trans (hI.lower (by omega) hBox)
         dsimp only
         have hx := (hasP_iff a b _ _).1 (moves_mem x.2).1
         have hin : inr x.1.f0 x.1.f1 := ⟨⟨by omega, by have := HR.out.ha; omega⟩, ⟨by omega, by have := HR.out.hb; omega⟩⟩
         have c3 : W.cell? ⟨w.heap.size + 1, 0, none⟩ = some (.map (some w.heap.size)) := (blk_cell (blk_below HS.out.out hbW) 0).trans rfl
         have c7 := hI.cell.cell
         have f7 := hI.cell.frozen
         have hl7 : wr.heap.size + 1 < W.heap.size := hI.cell.lt
         have c80 : W.cell? ⟨Bq, 0, none⟩ = some (.int .i64 x.1.f0) := (blk_cell hq 0).trans rfl
         have c81 : W.cell? ⟨Bq, 1, none⟩ = some (.int .i64 x.1.f1) := (blk_cell hq 1).trans rfl
         have hlk : (Instr.lookup 87 (.map (some w.heap.size)) (.agg #[.int .i64 x.1.f0, .int .i64 x.1.f1]) false).run Try.prog W.drew = .ok (.int .i64 ((f x.1.f0 x.1.f1).getD 0)) W.drew := MapF.look ((HMF.out.1.below hbW).same (w' := W.drew) rfl) und87 (zero3 _) hin
         have hfx := HMF.out.2.2.1 x.1.f0 x.1.f1 (moves_mem x.2).1 (by rcases (moves_mem x.2).2 with h | h | h <;> (have e0 := congrArg S25.f0 h; have e1 := congrArg S25.f1 h; simp only at e0 e1; omega))
         rw [hfx] at hlk
         have HHI := Aside0.mk hI
         have HIN := Aside0.mk (And.intro hx hin)
         have HBWW := Aside0.mk hbW
         clear hfx hx hin hI hbW
         generalize hfb : (pre.foldl (fun m (q : {q : S25 // q ∈ movesOf a b i k}) => min m (restI a b q.1.f0 q.1.f1)) 0) = bst at c7
         generalize hrx : restI a b x.1.f0 x.1.f1 = rx at hlk
         gi_wp2
         have hfold : (pre ++ [x]).foldl (fun m (q : {q : S25 // q ∈ movesOf a b i k}) => min m (restI a b q.1.f0 q.1.f1)) 0 = min bst rx := by rw [List.foldl_append, hfb, List.foldl_cons, List.foldl_nil, hrx]
         have HFO := Aside0.mk hfold
         clear hfold
         gi_region_with (refine ⟨trivial, ?_⟩; gi_at_call 65; refine (callsIn_round (lowest_calls W.heap.size bst rx _ (by simp) (by simp))).mono ?_; rintro e w2 ⟨rfl, rfl⟩)
         all_goals
          obtain ⟨h1, h2, h3⟩ := set_pays2 (n₀ := w.heap.size) (Bt := wr.heap.size + 2) (u := .int .i64 (min bst rx)) HHI.out hBox (by omega) (by omega) (by decide) rfl (pw_below_drewN (below_alloc (Below.refl _ _) (Obj.cells #[Value.int IntKind.i64 bst, Value.int IntKind.i64 rx] 3)) 1)
          exact ⟨h1, h2, (congrArg (fun z => At1 wl _ (wr.heap.size + 1) 3 (.int .i64 z)) HFO.out).mpr h3⟩
        case doneT =>
         rintro D ys W hD hys hI hDf
         have hbW : Below wr.heap.size wr W := HBL.out.trans (hI.lower (by omega) hBox)
         have hv : ys.foldl (fun m (q : {q : S25 // q ∈ movesOf a b i k}) => min m (restI a b q.1.f0 q.1.f1)) 0 = (movesOf a b i k).foldl (fun m q => min m (restI a b q.f0 q.f1)) 0 := (List.foldl_map (f := fun q : {q : S25 // q ∈ movesOf a b i k} => q.1) (g := fun m (q : S25) => min m (restI a b q.f0 q.f1))).symm.trans (congrArg (fun z : List S25 => z.foldl (fun m q => min m (restI a b q.f0 q.f1)) 0) hys)
         rw [hv] at hI
         have hre := rest_eq a b i k ⟨h0, hi.2⟩ ⟨h1, hk.2⟩
         rw [if_pos (by simp at hz; omega)] at hre
         generalize (movesOf a b i k).foldl (fun m q => min m (restI a b q.f0 q.f1)) 0 = best at hI hre
         clear hv hys hz
         have c3 : W.cell? ⟨w.heap.size + 1, 0, none⟩ = some (.map (some w.heap.size)) := (blk_cell (blk_below HS.out.out hbW) 0).trans rfl
         have hpW : W.heap[wr.heap.size]? = some (.cells #[.int .i64 i, .int .i64 k] 25 (0, 0)) := hI.blk HPL.out (by omega)
         have c60 : W.cell? ⟨wr.heap.size, 0, none⟩ = some (.int .i64 i) := (blk_cell hpW 0).trans rfl
         have c61 : W.cell? ⟨wr.heap.size, 1, none⟩ = some (.int .i64 k) := (blk_cell hpW 1).trans rfl
         have c7 := hI.cell.cell
         have KK := Aside0.mk (And.intro c3 (And.intro c60 (And.intro c61 c7)))
         have HBW2 := Aside0.mk hbW
         have HDF := Aside0.mk hDf
         have HTW := Aside0.mk (HT.out.below (HS.out.below.trans (hbW.mono HS.out.below.size)))
         have HRE := Aside0.mk hre
         clear hbW c3 hpW c60 c61 c7 hI hDf hre
         dsimp only
         go_wp2
         refine start_ (n := 8) (S := fun w' => w'.cell? ⟨w.heap.size + 1, 0, none⟩ = some (.map (some w.heap.size)) ∧ w'.cell? ⟨wr.heap.size, 0, none⟩ = some (.int .i64 i) ∧ w'.cell? ⟨wr.heap.size, 1, none⟩ = some (.int .i64 k) ∧ w'.cell? ⟨wr.heap.size + 1, 0, none⟩ = some (.int .i64 best)) (ds := [7]) #[false, false, false, false, false, false, false, false] (by kernel_rfl) rfl rfl KK.out (fun hHeld => ?_)
         refine with_tabW rests15_tab rests15_bits (fun HT_ HW_ => ?_)
         have hbb : Below W.heap.size W W.drew := pw_below_drewN (Below.refl _ _) 1
         replace HBW2 := Aside0.mk (below_then HBW2.out HBW2.out.size hbb)
         replace HTW := Aside0.mk (HTW.out.below hbb)
         replace HDF := Aside0.mk (blk_below2 hbb HDF.out)
         replace KK := Aside0.mk hHeld
         clear hbb
         generalize W.drew = w2 at HBW2 HTW HDF KK hHeld ⊢
         refine take_ (i := 0) (N := some 47) (v := ?_) (a' := ?_) #[true, false, false, false, false, false, false, false] rfl rfl (take_ofW HT_.out HW_.out (by kernel_rfl)) (fun _ _ _ h => h) (Or.inl ⟨by rfl, ?_⟩) hHeld ?_ ?_
         rotate_left
         · rintro w' ⟨s0, s1, s2, s3⟩
           go_simp
           with_reducible rfl
         rotate_left
         · simp only [Act.put, List.setIfInBounds_toArray, List.set_cons_zero, List.set_cons_succ, i64_w, i32_w]
           rfl
         refine take_ (i := 1) (N := some 48) (v := ?_) (a' := ?_) #[true, true, false, false, false, false, false, false] rfl rfl (take_ofW HT_.out HW_.out (by kernel_rfl)) (fun _ _ _ h => h) (Or.inl ⟨by rfl, ?_⟩) hHeld ?_ ?_
         rotate_left
         · rintro w' ⟨s0, s1, s2, s3⟩
           go_simp
           with_reducible rfl
         rotate_left
         · simp only [Act.put, List.setIfInBounds_toArray, List.set_cons_zero, List.set_cons_succ, i64_w, i32_w]
           rfl
         refine take_ (i := 2) (N := some 49) (v := ?_) (a' := ?_) #[true, true, true, false, false, false, false, false] rfl rfl (take_ofW HT_.out HW_.out (by kernel_rfl)) (fun _ _ _ h => h) (Or.inl ⟨by rfl, ?_⟩) hHeld ?_ ?_
         rotate_left
         · rintro w' ⟨s0, s1, s2, s3⟩
           go_simp
           with_reducible rfl
         rotate_left
         · simp only [Act.put, List.setIfInBounds_toArray, List.set_cons_zero, List.set_cons_succ, i64_w, i32_w]
           rfl
         refine take_ (i := 3) (N := some 50) (v := ?_) (a' := ?_) #[true, true, true, true, false, false, false, false] rfl rfl (take_ofW HT_.out HW_.out (by kernel_rfl)) (fun _ _ _ h => h) (Or.inl ⟨by rfl, ?_⟩) hHeld ?_ ?_
         rotate_left
         · rintro w' ⟨s0, s1, s2, s3⟩
           go_simp
           with_reducible rfl
         rotate_left
         · simp only [Act.put, List.setIfInBounds_toArray, List.set_cons_zero, List.set_cons_succ, i64_w, i32_w]
           rfl
         refine take_ (i := 4) (N := some 51) (v := ?_) (a' := ?_) #[true, true, true, true, true, false, false, false] rfl rfl (take_ofW HT_.out HW_.out (by kernel_rfl)) (fun _ _ _ h => h) (Or.inl ⟨by rfl, ?_⟩) hHeld ?_ ?_
         rotate_left
         · rintro w' ⟨s0, s1, s2, s3⟩
           go_simp
           with_reducible rfl
         rotate_left
         · simp only [Act.put, List.setIfInBounds_toArray, List.set_cons_zero, List.set_cons_succ, i64_w, i32_w]
           rfl
         refine one_ (i := 5) (N := some 52) #[true, true, true, true, true, true, false, false] rfl rfl (one_of HT_.out (by kernel_rfl)) (by decide) (fun K hK => ?_)
         refine goes_ Try.func47 (by kernel_rfl) rfl #[.pointer (some ⟨g, 0, none⟩), .agg #[.int .i64 i, .int .i64 k]] (by rfl) rfl rfl (by (try simp only [List.map_toArray, List.map_cons, List.map_nil]); first | done | rfl) ?_
         refine (far_calls g a b i k w2 HTW.out HR.out h0 hi.2 h1 hk.2).mono ?_
         rintro e w3 ⟨rfl, hbb⟩
         refine ⟨_, rfl, ?_⟩
         replace KK := Aside0.mk (And.intro (pw_cell_below hbb KK.out.1) (And.intro (pw_cell_below hbb KK.out.2.1) (And.intro (pw_cell_below hbb KK.out.2.2.1) (pw_cell_below hbb KK.out.2.2.2))))
         replace HBW2 := Aside0.mk (below_then HBW2.out HBW2.out.size hbb)
         replace HDF := Aside0.mk (blk_below2 hbb HDF.out)
         clear hbb
         refine hK.out _ _ KK.out (fun hHeld => ?_)
         clear hK K
         refine norm_ (a' := ?_) ?_ ?_
         rotate_left
         · show Act.put _ (some 52) _ = _
           simp only [Act.put, List.setIfInBounds_toArray, List.set_cons_zero, List.set_cons_succ, i64_w, i32_w]
           rfl
         refine pure_ (i := 6) (N := some 53) (v := .int .i64 (restI a b i k)) (a' := ?a6T) #[true, true, true, true, true, true, true, false] rfl rfl (any_of HT_.out (by kernel_rfl)) (fun _ _ _ h => h) (Or.inl ⟨by rfl, fun w' => ?hy6T⟩) ?ha6T ?hh6T
         case hy6T =>
          rw [HRE.out]
          go_simp
          rfl
         case ha6T =>
          simp only [Act.put, List.setIfInBounds_toArray, List.set_cons_zero, List.set_cons_succ, i64_w, i32_w]
          rfl
         obtain ⟨w4, hrun, hM4, hg4⟩ := (HMF.out.1.below HBW2.out).put und87 (by have := HMF.out.2.1; have := HR.out.ha; have := HR.out.hb; unfold maxLen; omega) (i := i) (k := k) ⟨⟨by omega, by have := HR.out.ha; omega⟩, ⟨by omega, by have := HR.out.hb; omega⟩⟩ (restI a b i k)
         refine last_ (i := 7) (N := none) #[true, true, true, true, true, true, true, true] rfl rfl (one_of HT_.out (by kernel_rfl)) (by decide) (fun K hK => ?_)
         refine map_step (by rfl) rfl 87 (.tmp 47) (.tmp 48) (.tmp 53) rfl hrun ?_
         refine hK.out _ _ ?_
         clear hK K hrun
         refine done_ (done_of HT_.out (by kernel_rfl)) ?_
         clear HT_ HW_ hHeld
         have e1 : wrap64 (k - 1) = k - 1 := w64' _ (by omega) (by have := HR.out.hb; omega)
         go_wp2
         try simp only [e1]
         refine HK2.out _ _ (Handed.intro ((k - 1) + 1).toNat (by omega) (HJ2.out _ _ _ ⟨k - 1, fun k => ([undef, _, undef, undef, undef, undef, _, _, _, _, _, _, _, _, _, _, _, _, _, _, _, _, _, _, _, _, _, _, _, _, _, _, _, _, _, _, _, _, _, _, _, _, _, _, _, _, _, _, _, _, _, _, _, _, _] : List Value).getD k undef, _, ⟨by omega, ⟨HS.out.next HBW2.out hM4 HMF.out.2.1 HMF.out.2.2 hg4 ⟨Nat.le_refl _, hbm⟩ ⟨hlo, by omega⟩ (by omega) HDF.out⟩⟩, rfl, rfl⟩))
       | false =>
        go_quiet (fail)
        go_wp2_with (go_at_call 52; refine (callsIn_wide.1 (moves_in 3 g i k _)).mono ?_; rintro e w2 ⟨rfl, rfl⟩)
        have hW0 : At1 w1 (w1.drewN nq) (wr.heap.size + 1) 3 (.int .i64 1000000) := (At1.start HBB.out).below (pw_below_drewN (Below.refl _ _) nq)
        have hWL := hW0.below (below_alloc (below_alloc (Below.refl _ _) (Obj.cells #[Value.pointer (some ⟨g, 0, none⟩)] 80)) (Obj.cells #[Value.int IntKind.i64 i, Value.int IntKind.i64 k] 25))
        have hBt := blk_alloc (blk_new (w1.drewN nq) (Obj.cells #[Value.pointer (some ⟨g, 0, none⟩)] 80)) (Obj.cells #[Value.int IntKind.i64 i, Value.int IntKind.i64 k] 25)
        have hBp := blk_new ((w1.drewN nq).alloc (Obj.cells #[Value.pointer (some ⟨g, 0, none⟩)] 80)) (Obj.cells #[Value.int IntKind.i64 i, Value.int IntKind.i64 k] 25)
        have hsl : (((w1.drewN nq).alloc (Obj.cells #[Value.pointer (some ⟨g, 0, none⟩)] 80)).alloc (Obj.cells #[Value.int IntKind.i64 i, Value.int IntKind.i64 k] 25)).heap.size = wr.heap.size + 4 := by simp; omega
        have hs0 : (w1.drewN nq).heap.size = wr.heap.size + 2 := by simp; omega
        rw [World.size_alloc] at hBp
        rw [hs0] at hBt hBp
        generalize (((w1.drewN nq).alloc (Obj.cells #[Value.pointer (some ⟨g, 0, none⟩)] 80)).alloc (Obj.cells #[Value.int IntKind.i64 i, Value.int IntKind.i64 k] 25)) = wl at hWL hBt hBp hsl ⊢
        clear hW0 hs0
        have hbl : Below wr.heap.size wr wl := HBW.out.trans (hWL.lower (by omega) (by omega))
        have hBO : Boxed wl (wr.heap.size + 1) 3 (.int .i64 1000000) := hWL.cell
        have HPL := Aside0.mk (hWL.blk HPB.out (by omega))
        obtain ⟨n, f, hM, hn, hf⟩ := HS.out.mp
        have HMF := Aside0.mk (And.intro hM (And.intro hn hf))
        have HBL := Aside0.mk hbl
        have HSL := Aside0.mk hsl
        have hlo : w.heap.size + 1 < wr.heap.size := blk_lt HS.out.out
        have hbm : w.heap.size < wr.heap.size := by omega
        clear hM hn hf p0 p1 q0 qf t2 t3 hWL
        have hBox : wr.heap.size + 1 < wl.heap.size := by omega
        refine (wpIn_wide (n := 3)).1 ?_
        refine wpIn_rangeFunc_ownH rfl (by omega) (gf := 72) (lb := #[.pointer (some ⟨wr.heap.size + 2 + 1, 0, none⟩), .pointer (some ⟨wr.heap.size + 2, 0, none⟩)]) rfl trivial (enters_of Try.func72 (by kernel_rfl) rfl)
         (moves_stops _ (by omega) (wr.heap.size + 2 + 1) (wr.heap.size + 2) (wr.heap.size + 1) g w.heap.size a b i k wl ((blk_cell hBp 0).trans rfl) ((blk_cell hBp 1).trans rfl) hBt (fun W' hb => HT.out.below ((HS.out.below.trans (hbl.mono HS.out.below.size)).trans hb)) (by omega) hBox ((ptr_boxed hBO).trans rfl) (by have := HR.out.ha; omega) (by have := HR.out.hb; omega)) KpM.trans' (KpM.putObj (by omega) hBox) (Below.refl _ _) (fun _ => rfl)
         (fun pre W => At1 wl W (wr.heap.size + 1) 3 (.int .i64 (pre.foldl (fun m (q : {q : S25 // q ∈ movesOf a b i k}) => min m (restI a b q.1.f0 q.1.f1)) 1000000)))
         (fun _ _ _ => False)
         (At1.own (fun pre : List {q : S25 // q ∈ movesOf a b i k} => (.int .i64 (pre.foldl (fun m (q : {q : S25 // q ∈ movesOf a b i k}) => min m (restI a b q.1.f0 q.1.f1)) 1000000))) hBox)
         (fun _ _ _ _ _ hs _ _ => hs)
         (At1.start hBO)
         (fun x a' W => ∃ (u : Nat → Value) (Bq : Nat), a' = { tmps := #[u 0, u 1, u 2, .pointer (some ⟨w.heap.size + 1, 0, none⟩), u 4, u 5, u 6, .pointer (some ⟨wr.heap.size + 1, 0, none⟩), .pointer (some ⟨Bq, 0, none⟩), u 9, u 10, u 11, u 12, u 13, u 14, u 15, u 16, u 17, u 18, u 19, u 20, u 21, u 22, u 23, u 24, u 25, u 26, u 27, u 28, u 29, u 30, u 31, u 32, u 33, u 34, u 35, u 36, u 37, u 38, u 39, u 40, u 41, u 42, u 43, u 44, u 45, u 46, u 47, u 48, u 49, u 50, u 51, u 52, u 53, u 54], defers := [] } ∧ W.heap[Bq]? = some (.cells #[.int .i64 x.1.f0, .int .i64 x.1.f1] 25 (0, 0)))
         (fun x a' _ X Y row hs hg hr => by
          obtain ⟨u, Bq, h1, h2⟩ := hs
          exact ⟨u, Bq, h1, (hg.block Bq (blk_lt2 h2) (fun e => by obtain ⟨_, o, ho, hc⟩ := hr Bq e.symm; rw [h2] at ho; cases ho; cases hc)).trans h2⟩) ?assignF ?bodyF ?doneF ?stopF
        case stopF =>
         rintro D c pre W _ _ h _
         exact h.elim
        case assignF =>
         intro l pre x W K hI hK
         gi_wp2
         obtain ⟨h1, h2, h3⟩ := quiet_pays (Bt := wr.heap.size + 2) (n₀ := w.heap.size) hI hBox (by omega) (below_alloc (Below.refl W.heap.size W) (Obj.cells #[Value.int IntKind.i64 x.1.f0, Value.int IntKind.i64 x.1.f1] 25))
         exact hK _ _ h1 h2 h3 ⟨fun k => ([_, _, _, undef, _, _, _, undef, undef, _, _, _, _, _, _, _, _, _, _, _, _, _, _, _, _, _, _, _, _, _, _, _, _, _, _, _, _, _, _, _, _, _, _, _, _, _, _, _, _, _, _, _, _, _, _] : List Value).getD k undef, _, rfl, blk_new _ _⟩
        case bodyF =>
         rintro l pre x a' W hl _ hI ⟨u, Bq, rfl, hq⟩ hlt
         have hbW : Below wr.heap.size wr W := HBL.out.trans (hI.lower (by omega) hBox)
         dsimp only
         have hx := (hasP_iff a b _ _).1 (moves_mem x.2).1
         have hin : inr x.1.f0 x.1.f1 := ⟨⟨by omega, by have := HR.out.ha; omega⟩, ⟨by omega, by have := HR.out.hb; omega⟩⟩
         have c3 : W.cell? ⟨w.heap.size + 1, 0, none⟩ = some (.map (some w.heap.size)) := (blk_cell (blk_below HS.out.out hbW) 0).trans rfl
         have c7 := hI.cell.cell
         have f7 := hI.cell.frozen
         have hl7 : wr.heap.size + 1 < W.heap.size := hI.cell.lt
         have c80 : W.cell? ⟨Bq, 0, none⟩ = some (.int .i64 x.1.f0) := (blk_cell hq 0).trans rfl
         have c81 : W.cell? ⟨Bq, 1, none⟩ = some (.int .i64 x.1.f1) := (blk_cell hq 1).trans rfl
         have hlk : (Instr.lookup 87 (.map (some w.heap.size)) (.agg #[.int .i64 x.1.f0, .int .i64 x.1.f1]) false).run Try.prog W.drew = .ok (.int .i64 ((f x.1.f0 x.1.f1).getD 0)) W.drew := MapF.look ((HMF.out.1.below hbW).same (w' := W.drew) rfl) und87 (zero3 _) hin
         have hfx := HMF.out.2.2.1 x.1.f0 x.1.f1 (moves_mem x.2).1 (by rcases (moves_mem x.2).2 with h | h | h <;> (have e0 := congrArg S25.f0 h; have e1 := congrArg S25.f1 h; simp only at e0 e1; omega))
         rw [hfx] at hlk
         have HHI := Aside0.mk hI
         have HIN := Aside0.mk (And.intro hx hin)
         have HBWW := Aside0.mk hbW
         clear hfx hx hin hI hbW
         generalize hfb : (pre.foldl (fun m (q : {q : S25 // q ∈ movesOf a b i k}) => min m (restI a b q.1.f0 q.1.f1)) 1000000) = bst at c7
         generalize hrx : restI a b x.1.f0 x.1.f1 = rx at hlk
         gi_wp2
         have hfold : (pre ++ [x]).foldl (fun m (q : {q : S25 // q ∈ movesOf a b i k}) => min m (restI a b q.1.f0 q.1.f1)) 1000000 = min bst rx := by rw [List.foldl_append, hfb, List.foldl_cons, List.foldl_nil, hrx]
         have HFO := Aside0.mk hfold
         clear hfold
         gi_region_with (refine ⟨trivial, ?_⟩; gi_at_call 65; refine (callsIn_round (lowest_calls W.heap.size bst rx _ (by simp) (by simp))).mono ?_; rintro e w2 ⟨rfl, rfl⟩)
         all_goals
          obtain ⟨h1, h2, h3⟩ := set_pays2 (n₀ := w.heap.size) (Bt := wr.heap.size + 2) (u := .int .i64 (min bst rx)) HHI.out hBox (by omega) (by omega) (by decide) rfl (pw_below_drewN (below_alloc (Below.refl _ _) (Obj.cells #[Value.int IntKind.i64 bst, Value.int IntKind.i64 rx] 3)) 1)
          exact ⟨h1, h2, (congrArg (fun z => At1 wl _ (wr.heap.size + 1) 3 (.int .i64 z)) HFO.out).mpr h3⟩
        case doneF =>
         rintro D ys W hD hys hI hDf
         have hbW : Below wr.heap.size wr W := HBL.out.trans (hI.lower (by omega) hBox)
         have hv : ys.foldl (fun m (q : {q : S25 // q ∈ movesOf a b i k}) => min m (restI a b q.1.f0 q.1.f1)) 1000000 = (movesOf a b i k).foldl (fun m q => min m (restI a b q.f0 q.f1)) 1000000 := (List.foldl_map (f := fun q : {q : S25 // q ∈ movesOf a b i k} => q.1) (g := fun m (q : S25) => min m (restI a b q.f0 q.f1))).symm.trans (congrArg (fun z : List S25 => z.foldl (fun m q => min m (restI a b q.f0 q.f1)) 1000000) hys)
         rw [hv] at hI
         have hre := rest_eq a b i k ⟨h0, hi.2⟩ ⟨h1, hk.2⟩
         rw [if_neg (by simp at hz; omega)] at hre
         generalize (movesOf a b i k).foldl (fun m q => min m (restI a b q.f0 q.f1)) 1000000 = best at hI hre
         clear hv hys hz
         have c3 : W.cell? ⟨w.heap.size + 1, 0, none⟩ = some (.map (some w.heap.size)) := (blk_cell (blk_below HS.out.out hbW) 0).trans rfl
         have hpW : W.heap[wr.heap.size]? = some (.cells #[.int .i64 i, .int .i64 k] 25 (0, 0)) := hI.blk HPL.out (by omega)
         have c60 : W.cell? ⟨wr.heap.size, 0, none⟩ = some (.int .i64 i) := (blk_cell hpW 0).trans rfl
         have c61 : W.cell? ⟨wr.heap.size, 1, none⟩ = some (.int .i64 k) := (blk_cell hpW 1).trans rfl
         have c7 := hI.cell.cell
         have KK := Aside0.mk (And.intro c3 (And.intro c60 (And.intro c61 c7)))
         have HBW2 := Aside0.mk hbW
         have HDF := Aside0.mk hDf
         have HTW := Aside0.mk (HT.out.below (HS.out.below.trans (hbW.mono HS.out.below.size)))
         have HRE := Aside0.mk hre
         clear hbW c3 hpW c60 c61 c7 hI hDf hre
         dsimp only
         go_wp2
         refine start_ (n := 8) (S := fun w' => w'.cell? ⟨w.heap.size + 1, 0, none⟩ = some (.map (some w.heap.size)) ∧ w'.cell? ⟨wr.heap.size, 0, none⟩ = some (.int .i64 i) ∧ w'.cell? ⟨wr.heap.size, 1, none⟩ = some (.int .i64 k) ∧ w'.cell? ⟨wr.heap.size + 1, 0, none⟩ = some (.int .i64 best)) (ds := [7]) #[false, false, false, false, false, false, false, false] (by kernel_rfl) rfl rfl KK.out (fun hHeld => ?_)
         refine with_tabW rests15_tab rests15_bits (fun HT_ HW_ => ?_)
         have hbb : Below W.heap.size W W.drew := pw_below_drewN (Below.refl _ _) 1
         replace HBW2 := Aside0.mk (below_then HBW2.out HBW2.out.size hbb)
         replace HTW := Aside0.mk (HTW.out.below hbb)
         replace HDF := Aside0.mk (blk_below2 hbb HDF.out)
         replace KK := Aside0.mk hHeld
         clear hbb
         generalize W.drew = w2 at HBW2 HTW HDF KK hHeld ⊢
         refine take_ (i := 0) (N := some 47) (v := ?_) (a' := ?_) #[true, false, false, false, false, false, false, false] rfl rfl (take_ofW HT_.out HW_.out (by kernel_rfl)) (fun _ _ _ h => h) (Or.inl ⟨by rfl, ?_⟩) hHeld ?_ ?_
         rotate_left
         · rintro w' ⟨s0, s1, s2, s3⟩
           go_simp
           with_reducible rfl
         rotate_left
         · simp only [Act.put, List.setIfInBounds_toArray, List.set_cons_zero, List.set_cons_succ, i64_w, i32_w]
           rfl
         refine take_ (i := 1) (N := some 48) (v := ?_) (a' := ?_) #[true, true, false, false, false, false, false, false] rfl rfl (take_ofW HT_.out HW_.out (by kernel_rfl)) (fun _ _ _ h => h) (Or.inl ⟨by rfl, ?_⟩) hHeld ?_ ?_
         rotate_left
         · rintro w' ⟨s0, s1, s2, s3⟩
           go_simp
           with_reducible rfl
         rotate_left
         · simp only [Act.put, List.setIfInBounds_toArray, List.set_cons_zero, List.set_cons_succ, i64_w, i32_w]
           rfl
         refine take_ (i := 2) (N := some 49) (v := ?_) (a' := ?_) #[true, true, true, false, false, false, false, false] rfl rfl (take_ofW HT_.out HW_.out (by kernel_rfl)) (fun _ _ _ h => h) (Or.inl ⟨by rfl, ?_⟩) hHeld ?_ ?_
         rotate_left
         · rintro w' ⟨s0, s1, s2, s3⟩
           go_simp
           with_reducible rfl
         rotate_left
         · simp only [Act.put, List.setIfInBounds_toArray, List.set_cons_zero, List.set_cons_succ, i64_w, i32_w]
           rfl
         refine take_ (i := 3) (N := some 50) (v := ?_) (a' := ?_) #[true, true, true, true, false, false, false, false] rfl rfl (take_ofW HT_.out HW_.out (by kernel_rfl)) (fun _ _ _ h => h) (Or.inl ⟨by rfl, ?_⟩) hHeld ?_ ?_
         rotate_left
         · rintro w' ⟨s0, s1, s2, s3⟩
           go_simp
           with_reducible rfl
         rotate_left
         · simp only [Act.put, List.setIfInBounds_toArray, List.set_cons_zero, List.set_cons_succ, i64_w, i32_w]
           rfl
         refine take_ (i := 4) (N := some 51) (v := ?_) (a' := ?_) #[true, true, true, true, true, false, false, false] rfl rfl (take_ofW HT_.out HW_.out (by kernel_rfl)) (fun _ _ _ h => h) (Or.inl ⟨by rfl, ?_⟩) hHeld ?_ ?_
         rotate_left
         · rintro w' ⟨s0, s1, s2, s3⟩
           go_simp
           with_reducible rfl
         rotate_left
         · simp only [Act.put, List.setIfInBounds_toArray, List.set_cons_zero, List.set_cons_succ, i64_w, i32_w]
           rfl
         refine one_ (i := 5) (N := some 52) #[true, true, true, true, true, true, false, false] rfl rfl (one_of HT_.out (by kernel_rfl)) (by decide) (fun K hK => ?_)
         refine goes_ Try.func47 (by kernel_rfl) rfl #[.pointer (some ⟨g, 0, none⟩), .agg #[.int .i64 i, .int .i64 k]] (by rfl) rfl rfl (by (try simp only [List.map_toArray, List.map_cons, List.map_nil]); first | done | rfl) ?_
         refine (far_calls g a b i k w2 HTW.out HR.out h0 hi.2 h1 hk.2).mono ?_
         rintro e w3 ⟨rfl, hbb⟩
         refine ⟨_, rfl, ?_⟩
         replace KK := Aside0.mk (And.intro (pw_cell_below hbb KK.out.1) (And.intro (pw_cell_below hbb KK.out.2.1) (And.intro (pw_cell_below hbb KK.out.2.2.1) (pw_cell_below hbb KK.out.2.2.2))))
         replace HBW2 := Aside0.mk (below_then HBW2.out HBW2.out.size hbb)
         replace HDF := Aside0.mk (blk_below2 hbb HDF.out)
         clear hbb
         refine hK.out _ _ KK.out (fun hHeld => ?_)
         clear hK K
         refine norm_ (a' := ?_) ?_ ?_
         rotate_left
         · show Act.put _ (some 52) _ = _
           simp only [Act.put, List.setIfInBounds_toArray, List.set_cons_zero, List.set_cons_succ, i64_w, i32_w]
           rfl
         refine pure_ (i := 6) (N := some 53) (v := .int .i64 (restI a b i k)) (a' := ?a6F) #[true, true, true, true, true, true, true, false] rfl rfl (any_of HT_.out (by kernel_rfl)) (fun _ _ _ h => h) (Or.inl ⟨by rfl, fun w' => ?hy6F⟩) ?ha6F ?hh6F
         case hy6F =>
          rw [HRE.out]
          go_simp
          rfl
         case ha6F =>
          simp only [Act.put, List.setIfInBounds_toArray, List.set_cons_zero, List.set_cons_succ, i64_w, i32_w]
          rfl
         obtain ⟨w4, hrun, hM4, hg4⟩ := (HMF.out.1.below HBW2.out).put und87 (by have := HMF.out.2.1; have := HR.out.ha; have := HR.out.hb; unfold maxLen; omega) (i := i) (k := k) ⟨⟨by omega, by have := HR.out.ha; omega⟩, ⟨by omega, by have := HR.out.hb; omega⟩⟩ (restI a b i k)
         refine last_ (i := 7) (N := none) #[true, true, true, true, true, true, true, true] rfl rfl (one_of HT_.out (by kernel_rfl)) (by decide) (fun K hK => ?_)
         refine map_step (by rfl) rfl 87 (.tmp 47) (.tmp 48) (.tmp 53) rfl hrun ?_
         refine hK.out _ _ ?_
         clear hK K hrun
         refine done_ (done_of HT_.out (by kernel_rfl)) ?_
         clear HT_ HW_ hHeld
         have e1 : wrap64 (k - 1) = k - 1 := w64' _ (by omega) (by have := HR.out.hb; omega)
         go_wp2
         try simp only [e1]
         refine HK2.out _ _ (Handed.intro ((k - 1) + 1).toNat (by omega) (HJ2.out _ _ _ ⟨k - 1, fun k => ([undef, _, undef, undef, undef, undef, _, _, _, _, _, _, _, _, _, _, _, _, _, _, _, _, _, _, _, _, _, _, _, _, _, _, _, _, _, _, _, _, _, _, _, _, _, _, _, _, _, _, _, _, _, _, _, _, _] : List Value).getD k undef, _, ⟨by omega, ⟨HS.out.next HBW2.out hM4 HMF.out.2.1 HMF.out.2.2 hg4 ⟨Nat.le_refl _, hbm⟩ ⟨hlo, by omega⟩ (by omega) HDF.out⟩⟩, rfl, rfl⟩))
     · have z1 : decide (k ≥ 0) = false := decide_eq_false h1
       obtain rfl : k = -1 := by omega
       have e1 : wrap64 (i - 1) = i - 1 := w64' _ (by omega) (by have := HR.out.ha; omega)
       go_wp2
       refine HK.out _ _ (Handed.intro ((i - 1) + 1).toNat (by omega) (HJ.out _ _ _ ⟨i - 1, fun k => ([undef, _, undef, undef, undef, _, _, _, _, _, _, _, _, _, _, _, _, _, _, _, _, _, _, _, _, _, _, _, _, _, _, _, _, _, _, _, _, _, _, _, _, _, _, _, _, _, _, _, _, _, _, _, _, _, _] : List Value).getD k undef, _, ⟨by omega, ⟨HS.out.row HR.out.hb.2⟩⟩, rfl, rfl⟩))
  · have z0 : decide (i ≥ 0) = false := decide_eq_false h0
    obtain rfl : i = -1 := by omega
    have c3 : wr.cell? ⟨w.heap.size + 1, 0, none⟩ = some (.map (some w.heap.size)) := (blk_cell HS.out.out 0).trans rfl
    go_wp2
    refine leaves_marks ds wr HS.out.marks (fun W' hb hk => ?_)
    obtain ⟨n, f, hM, hn, hf⟩ := HS.out.mp
    obtain ⟨es, ck, hob⟩ := hM.obj
    refine ⟨_, results_tmp rfl _ _ _, w.heap.size, rfl, n, f, hM.same ((hk _ _ hob (fun c e => by cases e)).trans hob.symm), Nat.le_refl _, fun x y hx => hf.1 x y hx ?_, HS.out.below.trans hb⟩
    have := (hasP_iff a b x y).1 hx
    omega

end Go.Proofs.Ytkocigldchiifaa.H

/- The walk that comes first of all of its height. -/
namespace Go.Proofs.Ytkocigldchiifaa.H
open Go.RowKit Go.Proofs.YtkocigldchiifaaW.PrintWords Go.Proofs.YtkocigldchiifaaW.PrintLast Go.Proofs.YtkocigldchiifaaW.PrintMore
open Go.Shelf Go.Proofs.Ytkocigldchiifaa.QA
set_option linter.unusedVariables false
set_option linter.unusedSimpArgs false


/-- The first move to a pair from which a walk of the gap's height leads on. -/
def fitsW (a b : List S59) (q : S25) : Bool := decide (restI a b q.f0 q.f1 ≤ restI a b 0 0)
def nextOf (a b : List S59) (i k : Int) : Option S25 := (movesOf a b i k).find? (fitsW a b)
def walkFrom (a b : List S59) : Nat → Int → Int → List S25
 | 0, _, _ => []
 | n + 1, i, k => if i = (a.length : Int) - 1 ∧ k = (b.length : Int) - 1 then [] else match nextOf a b i k with
  | some q => q :: walkFrom a b n q.f0 q.f1
  | none => []
def walkOf (a b : List S59) : List S25 := ⟨0, 0⟩ :: walkFrom a b (a.length + b.length) 0 0
theorem foldl_min_gt {α : Type} (f : α → Int) (g : Int) (l : List α) (x : Int) (hx : g < x) (h : ∀ q ∈ l, g < f q) : g < l.foldl (fun m q => min m (f q)) x := by
 induction l generalizing x with
 | nil => exact hx
 | cons q l ih =>
  refine ih _ ?_ (fun q hq => h q (List.mem_cons_of_mem _ hq))
  have := h q List.mem_cons_self
  show g < min x (f q)
  omega
theorem next_some (a b : List S59) (hR : Rolls a b) (i k : Int) (hi : 0 ≤ i ∧ i < a.length) (hk : 0 ≤ k ∧ k < b.length) (hl : ¬ (i = (a.length : Int) - 1 ∧ k = (b.length : Int) - 1)) (hg : restI a b i k ≤ restI a b 0 0) :
  ∃ q, nextOf a b i k = some q ∧ q ∈ movesOf a b i k ∧ restI a b q.f0 q.f1 ≤ restI a b 0 0 := by
 cases hn : nextOf a b i k with
 | some q =>
  unfold nextOf at hn
  have h1 := List.mem_of_find?_eq_some hn
  have h2 := List.find?_some hn
  exact ⟨q, rfl, h1, of_decide_eq_true h2⟩
 | none =>
  exfalso
  unfold nextOf at hn
  rw [List.find?_eq_none] at hn
  have hall : ∀ q ∈ movesOf a b i k, restI a b 0 0 < restI a b q.f0 q.f1 := fun q hq => by
   have := hn q hq
   unfold fitsW at this
   simp at this
   exact this
  have hin : ∀ q ∈ movesOf a b i k, restI a b q.f0 q.f1 ≤ 1000000 := fun q hq => by
   obtain ⟨h3, h4⟩ := (hasP_iff a b _ _).1 (moves_mem hq).1
   exact (rest_in a b hR (((a.length : Int) - q.f0) + ((b.length : Int) - q.f1)).toNat q.f0 q.f1 h3 h4 (by omega)).2
  have hne : ∃ q, q ∈ movesOf a b i k := by
   rw [moves_eq a b i k hi hk]
   by_cases h1 : i + 1 < a.length
   · exact ⟨⟨i + 1, k⟩, by simp [h1]⟩
   · exact ⟨⟨i, k + 1⟩, by rw [if_neg (fun h => h1 h.1), if_neg h1, if_pos (by omega)]; simp⟩
  obtain ⟨q, hq⟩ := hne
  have hlt : restI a b 0 0 < 1000000 := Int.lt_of_lt_of_le (hall q hq) (hin q hq)
  rw [rest_eq a b i k hi hk, if_neg hl] at hg
  have hf := foldl_min_gt (fun q : S25 => restI a b q.f0 q.f1) _ (movesOf a b i k) 1000000 hlt hall
  revert hg hf
  generalize (movesOf a b i k).foldl (fun m q => min m (restI a b q.f0 q.f1)) 1000000 = y
  unfold mx
  intro hg hf
  split at hg <;> omega

end Go.Proofs.Ytkocigldchiifaa.H

/- How many walks there are, pair by pair from the last one on. -/
namespace Go.Proofs.Ytkocigldchiifaa.H
open Go.RowKit Go.Proofs.YtkocigldchiifaaW.PrintWords Go.Proofs.YtkocigldchiifaaW.PrintLast Go.Proofs.YtkocigldchiifaaW.PrintMore
open Go.Shelf Go.Proofs.Ytkocigldchiifaa.QA
set_option linter.unusedVariables false
set_option linter.unusedSimpArgs false


def cntH (a b : List S59) (h : Int) (u v : Nat) (l : List Int) : Int := if h < dEnd a b u v then 0 else min (l.foldl (fun m x => m + x) (if u = 0 ∧ v = 0 then 1 else 0)) 4503599627370496
/-- How many walks there are from a pair on, none of whose pairs is above a height (up to a limit). -/
def cntI (a b : List S59) (h i k : Int) : Int := dpI (cntH a b h) a b i k
theorem cnt_eq (a b : List S59) (h i k : Int) (hi : 0 ≤ i ∧ i < a.length) (hk : 0 ≤ k ∧ k < b.length) :
  cntI a b h i k = if h < farD (rd_T59 a i) (rd_T59 b k) then 0 else min ((movesOf a b i k).foldl (fun m q => m + cntI a b h q.f0 q.f1) (if i = (a.length : Int) - 1 ∧ k = (b.length : Int) - 1 then 1 else 0)) 4503599627370496 := by
 unfold cntI
 rw [dp_eq _ a b i k hi hk]
 unfold cntH
 rw [dEnd_eq a b i k hi hk, List.foldl_map]
 congr 3
 by_cases h : i = (a.length : Int) - 1 ∧ k = (b.length : Int) - 1
 · rw [if_pos h, if_pos (by omega)]
 · rw [if_neg h, if_neg (by omega)]
theorem foldl_add_in {α : Type} (f : α → Int) (M : Int) (l : List α) (x : Int) (hx : 0 ≤ x) (h : ∀ q ∈ l, 0 ≤ f q ∧ f q ≤ M) : 0 ≤ l.foldl (fun m q => m + f q) x ∧ l.foldl (fun m q => m + f q) x ≤ x + l.length * M := by
 induction l generalizing x with
 | nil => simp; exact hx
 | cons q l ih =>
  have h1 := h q List.mem_cons_self
  have h2 := ih (x + f q) (by omega) (fun q hq => h q (List.mem_cons_of_mem _ hq))
  simp only [List.foldl_cons, List.length_cons, Int.natCast_add, Int.natCast_one, Int.add_mul, Int.one_mul]
  omega
theorem cnt_in (a b : List S59) (h i k : Int) (hi : 0 ≤ i ∧ i < a.length) (hk : 0 ≤ k ∧ k < b.length) : ∀ n : Nat, ((a.length : Int) - i) + ((b.length : Int) - k) ≤ n → 0 ≤ cntI a b h i k ∧ cntI a b h i k ≤ 4503599627370496 := by
 intro n
 induction n generalizing i k with
 | zero => intro h; omega
 | succ n ih =>
  intro hn
  rw [cnt_eq a b h i k hi hk]
  split
  · omega
  · have hm := foldl_add_in (fun q : S25 => cntI a b h q.f0 q.f1) 4503599627370496 (movesOf a b i k) (if i = (a.length : Int) - 1 ∧ k = (b.length : Int) - 1 then 1 else 0) (by split <;> omega) (fun q hq => by
     obtain ⟨h1, h2⟩ := moves_mem hq
     obtain ⟨h3, h4⟩ := (hasP_iff a b _ _).1 h1
     refine ih _ _ h3 h4 ?_
     rcases h2 with rfl | rfl | rfl <;> simp only <;> omega)
    generalize (movesOf a b i k).foldl (fun m q => m + cntI a b h q.f0 q.f1) (if i = (a.length : Int) - 1 ∧ k = (b.length : Int) - 1 then 1 else 0) = y at hm ⊢
    omega
theorem cnt_in' (a b : List S59) (h : Int) {q : S25} (hq : hasP a b q.f0 q.f1 = true) : 0 ≤ cntI a b h q.f0 q.f1 ∧ cntI a b h q.f0 q.f1 ≤ 4503599627370496 := by
 obtain ⟨h3, h4⟩ := (hasP_iff a b _ _).1 hq
 exact cnt_in a b h _ _ h3 h4 (((a.length : Int) - q.f0) + ((b.length : Int) - q.f1)).toNat (by omega)

end Go.Proofs.Ytkocigldchiifaa.H

/- align.Gap. -/
namespace Go.Proofs.Ytkocigldchiifaa.H
open Go.RowKit Go.Proofs.YtkocigldchiifaaW.PrintWords Go.Proofs.YtkocigldchiifaaW.PrintLast Go.Proofs.YtkocigldchiifaaW.PrintMore
open Go.Shelf Go.Proofs.Ytkocigldchiifaa.QA
attribute [local go_sem] Oper.semAt_some
set_option linter.unusedVariables false
set_option linter.unusedSimpArgs false


def align_Gap.f (l0 l1 : List S59) : Option (Int × Int) := (align_Check.f l0 l1).bind fun e => some (if e = 0 then (restI l0 l1 0 0, 0) else (0, e))
set_option maxRecDepth 100000 in
set_option maxHeartbeats 1000000 in
theorem align_Gap.calls (A0 : Option Addr) (c0 : Nat) (l0 : List S59) (A1 : Option Addr) (c1 : Nat) (l1 : List S59) (r1 r2 : Int) (w : World) (hr0 : Kd.C k59 w A0 l0.length l0) (hc0 : l0.length ≤ c0) (hr1 : Kd.C k59 w A1 l1.length l1) (hc1 : l1.length ≤ c1) (h : align_Gap.f l0 l1 = some (r1, r2)) :
  Calls Try.prog 19 #[.slice A0 l0.length c0, .slice A1 l1.length c1] w fun e w' => e = .returned (.tuple #[.int .i64 r1, .int .i64 r2]) ∧ Below w.heap.size w w' := by
 have hu25 := Try.underlying25
 unfold align_Gap.f at h
 obtain ⟨e, he, h⟩ := Option.bind_eq_some_iff.1 h
 have HR0 := Aside0.mk hr0
 have HR1 := Aside0.mk hr1
 have HE := Aside0.mk he
 have HC := Aside0.mk (And.intro hc0 hc1)
 have h1 := Option.some.inj h
 clear h he hr0 hr1 hc0 hc1
 by_cases h0 : e = 0
 · subst h0
   rw [if_pos rfl] at h1
   have HO := Aside0.mk (rolls_of HE.out)
   obtain ⟨rfl, rfl⟩ := Prod.mk.inj h1
   clear h1
   have HP := Aside0.mk ((hasP_iff l0 l1 0 0).2 ⟨⟨by omega, by have := HO.out.ha; omega⟩, ⟨by omega, by have := HO.out.hb; omega⟩⟩)
   go_enter Try.func19, Try.ntmps19
   go_wp2_with fail
   refine (newTable_ok A0 c0 l0 A1 c1 l1 _ HR0.out HC.out.1 HR1.out HC.out.2 HE.out).mono ?_
   rintro e w1 ⟨g, rfl, hT, _, hb⟩
   have HT := Aside0.mk hT
   have HB := Aside0.mk hb
   clear hT hb
   go_wp2_with fail
   refine (rests_calls g l0 l1 _ HT.out HO.out).mono ?_
   rintro e w2 ⟨bm, n, f, rfl, hM, _, hf, hb⟩
   have hlk : (Instr.lookup 87 (.map (some bm)) (.agg #[.int .i64 0, .int .i64 0]) false).run Try.prog w2 = .ok (.int .i64 ((f 0 0).getD 0)) w2 := MapF.look hM und87 (zero3 _) ⟨by omega, by omega⟩
   rw [hf 0 0 HP.out] at hlk
   replace HB := Aside0.mk (below_then HB.out HB.out.size hb)
   clear hb hM hf
   go_wp2
   go_ret2
   exact ⟨rfl, HB.out⟩
 · rw [if_neg h0] at h1
   obtain ⟨rfl, rfl⟩ := Prod.mk.inj h1
   have hb0 : (e != 0) = true := by simp [h0]
   have H0 := Aside0.mk h0
   clear h1 h0
   go_enter Try.func19, Try.ntmps19
   go_wp2_with fail
   refine (newTable_no A0 c0 l0 A1 c1 l1 e _ HR0.out HC.out.1 HR1.out HC.out.2 HE.out H0.out).mono ?_
   rintro e w1 ⟨rfl, hb⟩
   have HB := Aside0.mk hb
   clear hb
   go_wp2
   go_ret2
   exact ⟨rfl, HB.out⟩

end Go.Proofs.Ytkocigldchiifaa.H
