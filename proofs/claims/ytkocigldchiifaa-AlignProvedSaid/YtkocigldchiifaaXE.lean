/- Texts HC, HE, HF, P3, HG, HI of this chapter, one behind the other. -/
import Derived.Carry
import Derived.LoopIn
import Derived.LoopNIn
import Derived.Maps.AppendAt
import Derived.OwnWalkIn
import Derived.RangeFuncBound
import Derived.RangeFuncBox
import Derived.RangeFuncCalls
import Derived.RangeFuncLeaves
import Derived.RangeFuncNested
import Derived.RangeFuncWrites
import Derived.Shelf.Abstract
import Derived.Shelf.RegionOpen
import Derived.TacticsInMore
import Derived.WalkKit
import Derived.WalkSmall
import Derived.Test.YtkocigldchiifaaXA
import Derived.Test.YtkocigldchiifaaXB

/- begins, ends, precedes. -/
namespace Go.Proofs.Ytkocigldchiifaa.H
open Go.RowKit Go.Proofs.YtkocigldchiifaaW.PrintWords Go.Proofs.YtkocigldchiifaaW.PrintLast Go.Proofs.YtkocigldchiifaaW.PrintMore
open Go.Shelf Go.Proofs.Ytkocigldchiifaa.QA
attribute [local go_sem] Oper.semAt_some
set_option linter.unusedVariables false
set_option linter.unusedSimpArgs false


def begB (a b : List S59) (i k : Int) : Bool := i == 0 || k == (b.length : Int) - 1
def endB (a b : List S59) (i k : Int) : Bool := i == (a.length : Int) - 1 || k == 0
/-- A pair can come right before another one. -/
def preB (p q : S25) : Bool := decide (q.f0 ≤ p.f0 + 1) && decide (q.f1 ≥ p.f1 - 1) && !(q.f0 == p.f0 + 1 && q.f1 == p.f1 - 1)
theorem prec_calls (p q : S25) (w : World) (h0 : 0 ≤ p.f0 ∧ p.f0 ≤ 1000000) (h1 : 0 ≤ p.f1 ∧ p.f1 ≤ 1000000) :
  Calls Try.prog 61 #[.agg #[.int .i64 p.f0, .int .i64 p.f1], .agg #[.int .i64 q.f0, .int .i64 q.f1]] w fun e w' => e = .returned (.bool (preB p q)) ∧ Below w.heap.size w w' := by
 refine align_Pair_precedes.calls p.f0 p.f1 q.f0 q.f1 (preB p q) w ?_
 have e1 : wrap64 (p.f0 + 1) = p.f0 + 1 := by unfold wrap64; omega
 have e2 : wrap64 (p.f1 - 1) = p.f1 - 1 := by unfold wrap64; omega
 unfold align_Pair_precedes.f preB
 rw [e1, e2]
 by_cases c1 : q.f0 ≤ p.f0 + 1
 · by_cases c2 : q.f1 ≥ p.f1 - 1
   · rw [if_pos c1, if_pos c2, decide_eq_true c1, decide_eq_true c2, Bool.not_and]
     rfl
   · rw [if_pos c1, if_neg c2, decide_eq_false c2, Bool.and_false, Bool.false_and]
 · rw [if_neg c1, decide_eq_false c1, Bool.false_and, Bool.false_and]

set_option maxRecDepth 100000 in
theorem begins_calls (g : Nat) (a b : List S59) (i k : Int) (w : World) (h : Tb w g a b) :
  Calls Try.prog 56 #[.pointer (some ⟨g, 0, none⟩), .agg #[.int .i64 i, .int .i64 k]] w fun e w' => e = .returned (.bool (begB a b i k)) ∧ Below w.heap.size w w' := by
 have hu25 := Try.underlying25
 have hlt := h.lt
 obtain ⟨A0, c0, A1, c1, h1, _, _⟩ := h
 have k2 : w.cell? ⟨g, 2, none⟩ = some (.int .i64 ((a.length : Int) - 1)) := (blk_cell h1 2).trans rfl
 have k3 : w.cell? ⟨g, 3, none⟩ = some (.int .i64 ((b.length : Int) - 1)) := (blk_cell h1 3).trans rfl
 clear h1
 unfold begB
 generalize (a.length : Int) - 1 = la at k2 ⊢
 generalize (b.length : Int) - 1 = lb at k3 ⊢
 have hb := below_alloc (Below.refl w.heap.size w) (.cells #[.int .i64 i, .int .i64 k] 25)
 have bp := blk_new w (.cells #[.int .i64 i, .int .i64 k] 25)
 have y0 : (w.alloc (.cells #[.int .i64 i, .int .i64 k] 25)).cell? ⟨w.heap.size, 0, none⟩ = some (.int .i64 i) := (blk_cell bp 0).trans rfl
 have y1 : (w.alloc (.cells #[.int .i64 i, .int .i64 k] 25)).cell? ⟨w.heap.size, 1, none⟩ = some (.int .i64 k) := (blk_cell bp 1).trans rfl
 replace k2 := (hb.cell (p := ⟨g, 2, none⟩) hlt).trans k2
 replace k3 := (hb.cell (p := ⟨g, 3, none⟩) hlt).trans k3
 have HB := Aside0.mk hb
 clear bp hlt hb
 cases q1 : (i == 0)
 all_goals
  go_enter Try.func56, Try.ntmps56
  go_wp2_with fail
  generalize w.alloc (.cells #[.int .i64 i, .int .i64 k] 25) = w1 at y0 y1 k2 k3 HB ⊢
  generalize w.heap.size = B at y0 y1 ⊢
  go_quiet (fail)
  go_wp2
  go_ret
  exact ⟨rfl, by repeat (first | exact HB.out | apply pw_below_drewN | apply below_alloc)⟩

set_option maxRecDepth 100000 in
theorem ends_calls (g : Nat) (a b : List S59) (i k : Int) (w : World) (h : Tb w g a b) :
  Calls Try.prog 59 #[.pointer (some ⟨g, 0, none⟩), .agg #[.int .i64 i, .int .i64 k]] w fun e w' => e = .returned (.bool (endB a b i k)) ∧ Below w.heap.size w w' := by
 have hu25 := Try.underlying25
 have hlt := h.lt
 obtain ⟨A0, c0, A1, c1, h1, _, _⟩ := h
 have k2 : w.cell? ⟨g, 2, none⟩ = some (.int .i64 ((a.length : Int) - 1)) := (blk_cell h1 2).trans rfl
 have k3 : w.cell? ⟨g, 3, none⟩ = some (.int .i64 ((b.length : Int) - 1)) := (blk_cell h1 3).trans rfl
 clear h1
 unfold endB
 generalize (a.length : Int) - 1 = la at k2 ⊢
 generalize (b.length : Int) - 1 = lb at k3 ⊢
 have hb := below_alloc (Below.refl w.heap.size w) (.cells #[.int .i64 i, .int .i64 k] 25)
 have bp := blk_new w (.cells #[.int .i64 i, .int .i64 k] 25)
 have y0 : (w.alloc (.cells #[.int .i64 i, .int .i64 k] 25)).cell? ⟨w.heap.size, 0, none⟩ = some (.int .i64 i) := (blk_cell bp 0).trans rfl
 have y1 : (w.alloc (.cells #[.int .i64 i, .int .i64 k] 25)).cell? ⟨w.heap.size, 1, none⟩ = some (.int .i64 k) := (blk_cell bp 1).trans rfl
 replace k2 := (hb.cell (p := ⟨g, 2, none⟩) hlt).trans k2
 replace k3 := (hb.cell (p := ⟨g, 3, none⟩) hlt).trans k3
 have HB := Aside0.mk hb
 clear bp hlt hb
 cases q1 : (i == la)
 all_goals
  go_enter Try.func59, Try.ntmps59
  go_wp2_with fail
  generalize w.alloc (.cells #[.int .i64 i, .int .i64 k] 25) = w1 at y0 y1 k2 k3 HB ⊢
  generalize w.heap.size = B at y0 y1 ⊢
  go_quiet (fail)
  go_wp2
  go_ret
  exact ⟨rfl, by repeat (first | exact HB.out | apply pw_below_drewN | apply below_alloc)⟩

end Go.Proofs.Ytkocigldchiifaa.H

/- Slices of pairs from any offset on; the queue. -/
namespace Go.Proofs.Ytkocigldchiifaa.H
open Go.RowKit Go.Proofs.YtkocigldchiifaaW.PrintWords Go.Proofs.YtkocigldchiifaaW.PrintLast Go.Proofs.YtkocigldchiifaaW.PrintMore
open Go.Shelf Go.Proofs.Ytkocigldchiifaa.QA
attribute [local go_sem] Oper.semAt_some
set_option linter.unusedVariables false
set_option linter.unusedSimpArgs false


def cellsP (xs : List S25) : List Value := xs.flatMap fun x => [.int .i64 x.f0, .int .i64 x.f1]
/-- A slice of pairs in a row of one's own, from any offset on. -/
def Tail (W : World) (base : Nat) (v : Value) (xs : List S25) : Prop :=
 (v = .slice none 0 0 ∧ xs = []) ∨ ∃ g off cap cur, v = .slice (some ⟨g, off, none⟩) xs.length cap ∧ base ≤ g ∧ W.heap[g]? = some (.cells cur 25 (0, 0)) ∧ xs.length ≤ cap ∧ cap ≤ maxLen ∧ off + cap * 2 ≤ cur.size ∧ (cur.toList.drop off).take (xs.length * 2) = cellsP xs
theorem cellsP_len (xs : List S25) : (cellsP xs).length = xs.length * 2 := by
 induction xs with
 | nil => rfl
 | cons x xs ih => simp [cellsP] at ih ⊢; omega
theorem cellsP_snoc (xs : List S25) (x : S25) : cellsP (xs ++ [x]) = cellsP xs ++ [Value.int .i64 x.f0, Value.int .i64 x.f1] := by simp [cellsP]
theorem cellsP_cons (xs : List S25) (x : S25) : cellsP (x :: xs) = Value.int .i64 x.f0 :: Value.int .i64 x.f1 :: cellsP xs := by simp [cellsP]
/-- But one block and one row nothing that was there has turned. -/
structure Fr (w w' : World) (gq : Nat) (r : Option Nat) : Prop where
 os : w'.os = w.os
 tape : w'.tape = w.tape
 output : w'.output = w.output
 size : w.heap.size ≤ w'.heap.size
 but : ∀ g, g < w.heap.size → g ≠ gq → some g ≠ r → w'.heap[g]? = w.heap[g]?
theorem Tail.lt {W : World} {base : Nat} {v : Value} {xs : List S25} (h : Tail W base v xs) (j : Nat) (hj : v.ownBlock = some j) : base ≤ j ∧ j < W.heap.size ∧ ∃ cur, W.heap[j]? = some (.cells cur 25 (0, 0)) := by
 rcases h with ⟨rfl, _⟩ | ⟨g, off, cap, cur, rfl, h1, h2, _⟩
 · simp [Value.ownBlock] at hj
 · obtain rfl : g = j := by simpa [Value.ownBlock] using hj
   exact ⟨h1, blk_lt2 h2, cur, h2⟩
theorem Tail.kept {W W' : World} {base : Nat} {v : Value} {xs : List S25} (h : Tail W base v xs) (hk : ∀ (j : Nat) (cur : Array Value), v.ownBlock = some j → W.heap[j]? = some (.cells cur 25 (0, 0)) → W'.heap[j]? = some (.cells cur 25 (0, 0))) : Tail W' base v xs := by
 rcases h with h | ⟨g, off, cap, cur, rfl, h1, h2, h3⟩
 · exact .inl h
 · exact .inr ⟨g, off, cap, cur, rfl, h1, hk g cur rfl h2, h3⟩
theorem Tail.below {W W' : World} {base : Nat} {v : Value} {xs : List S25} (h : Tail W base v xs) (hb : Below W.heap.size W W') : Tail W' base v xs := h.kept fun _ _ _ hj => blk_below2 hb hj
theorem Tail.ne {W : World} {base : Nat} {v : Value} {xs : List S25} (h : Tail W base v xs) {j : Nat} {o : Obj} (hj : W.heap[j]? = some o) (ho : ∀ cur, o ≠ .cells cur 25 (0, 0)) : some j ≠ v.ownBlock := fun e => by
 obtain ⟨_, _, cur, h2⟩ := h.lt j e.symm
 rw [hj] at h2
 exact ho cur (Option.some.inj h2)
theorem Tail.cells {W : World} {base : Nat} {g off cap : Nat} {xs : List S25} {n : Nat} (h : Tail W base (.slice (some ⟨g, off, none⟩) n cap) xs) : n = xs.length ∧ ∀ j u, (cellsP xs)[j]? = some u → W.cell? ⟨g, off + j, none⟩ = some u := by
 rcases h with ⟨h1, _⟩ | ⟨g', off', cap', cur, h1, h2, h3, h4, h5, h6, h7⟩
 · cases h1
 · cases h1
   refine ⟨rfl, fun j u hj => ?_⟩
   have hlt := (List.getElem?_eq_some_iff.1 hj).1
   rw [cellsP_len] at hlt
   rw [← h7, List.getElem?_take_of_lt hlt, List.getElem?_drop, Array.getElem?_toList] at hj
   unfold World.cell?
   simp only [h3]
   exact hj
theorem add_off (g off j : Nat) : ((⟨g, off, none⟩ : Addr).add j) = ⟨g, off + j, none⟩ := by unfold Addr.add; split <;> simp_all
/-- ONE PAIR MORE. -/
theorem run_append_tail (w : World) (base : Nat) (v : Value) (xs : List S25) (x : S25) (a : Addr) (c : Nat) (ht : Tail w base v xs) (hb : base ≤ w.heap.size) (hl : xs.length < 100000)
  (hnews : ∀ j u, [Value.int .i64 x.f0, Value.int .i64 x.f1][j]? = some u → w.cell? (a.add j) = some u) :
  ∃ v' w', (Builtin.append_ #[38, 38] 38 #[v, .slice (some a) 1 c]).run Try.prog w = .ok v' w' ∧ Tail w' base v' (xs ++ [x]) ∧ w.grownBy w' v.ownBlock ∧ (v'.ownBlock = v.ownBlock ∨ v'.ownBlock = some w.heap.size) := by
 obtain ⟨i, hi, hz, hs, hby⟩ := info_parts info25
 have hnl : [Value.int .i64 x.f0, Value.int .i64 x.f1].length = 1 * i.size := by rw [hs]; rfl
 have hol : (cellsP xs).length = xs.length * i.size := by rw [hs]; exact cellsP_len xs
 rcases ht with ⟨rfl, rfl⟩ | ⟨g, off, cap, cur, rfl, h1, h2, h3, h4, h5, h6⟩
 · have hr := run_append_nil (P := Try.prog) w 38 38 25 i _ Try.underlying38 hi hz a 1 c _ hnl hnews (by omega) (by omega) (by rw [hby]; omega)
   refine ⟨_, _, hr, ?_, ⟨rfl, rfl, rfl, by simp, fun k hk _ => by first | exact heap_alloc_old w.drew _ k hk | exact heap_alloc_old w.drew _ hk⟩, .inr rfl⟩
   have hge := grownCap_ge w 1 0 25
   have hcm : grownCap w 1 0 25 ≤ maxLen := grownCap_le_maxLen w 1 0 25 (by simp [maxLen])
   refine .inr ⟨w.heap.size, 0, _, _, rfl, hb, heap_alloc_new w.drew _, hge, hcm, ?_, ?_⟩
   · simp only [Array.size_append, List.size_toArray, size_zeroCells, List.length_cons, List.length_nil]
     have : (Value.agg #[Value.int .i64 0, Value.int .i64 0]).cells.size = 2 := rfl
     rw [this]
     omega
   · simp [cellsP]
 · by_cases hroom : xs.length + 1 ≤ cap
   · have hst := run_storeCells_at Try.prog g (off + xs.length * i.size) 25 [Value.int .i64 x.f0, Value.int .i64 x.f1] 0 cur w h2 (by rw [hs]; simp; omega) (by simp [Value.oneCell'])
     simp only [Nat.add_zero] at hst
     have hf := run_firstCells_some (P := Try.prog) w i.size 1 a 1 c _ hnl hnews
     have hr : (Builtin.append_ #[38, 38] 38 #[.slice (some ⟨g, off, none⟩) xs.length cap, .slice (some a) 1 c]).run Try.prog w = .ok (.slice (some ⟨g, off, none⟩) (xs.length + 1) cap) (w.setRow g (cur.toList.take (off + xs.length * i.size) ++ [Value.int .i64 x.f0, Value.int .i64 x.f1] ++ cur.toList.drop (off + xs.length * i.size + 2)).toArray) := by
      simp [Builtin.append_, run_underlying Try.underlying38, sizeOf, typeInfo, hi, Builtin.lenOf, hroom, hf, Addr.add_lit, hst]
     refine ⟨_, _, hr, .inr ⟨g, off, cap, _, by simp, h1, setRow_heap w g cur _ 25 _ h2, by simp; omega, h4, ?_, ?_⟩, ⟨rfl, rfl, rfl, by simp, fun k _ hk => setRow_other w g k _ (fun e => hk (by simp [Value.ownBlock, e]))⟩, .inl rfl⟩
     · rw [hs]
       simp only [List.size_toArray, List.length_append, List.length_take, List.length_drop, Array.length_toList, List.length_cons, List.length_nil]
       omega
     · rw [hs, cellsP_snoc]
       have hlen : off + xs.length * 2 ≤ cur.toList.length := by simp; omega
       have e1 : (cur.toList.take (off + xs.length * 2)).drop off = cellsP xs := by
        rw [List.drop_take, Nat.add_sub_cancel_left]
        exact h6
       have e2 : (cur.toList.take (off + xs.length * 2)).length = off + xs.length * 2 := by rw [List.length_take]; omega
       simp only [List.append_assoc]
       rw [List.drop_append_of_le_length (by omega), e1, List.length_append, List.length_singleton, ← List.append_assoc]
       have e3 : (cellsP xs ++ [Value.int .i64 x.f0, Value.int .i64 x.f1]).length = (xs.length + 1) * 2 := by rw [List.length_append, cellsP_len]; simp; omega
       rw [← e3]
       exact List.take_left
   · have holds : ∀ j u, (cellsP xs)[j]? = some u → w.cell? ((⟨g, off, none⟩ : Addr).add j) = some u := fun j u hj => by
      rw [add_off]
      exact (Tail.cells (W := w) (base := base) (.inr ⟨g, off, cap, cur, rfl, h1, h2, h3, h4, h5, h6⟩)).2 j u hj
     have hr := run_append_grow (P := Try.prog) w 38 38 25 i _ Try.underlying38 hi hz ⟨g, off, none⟩ xs.length cap (cellsP xs) hol holds a 1 c _ hnl hnews (by omega) (by omega) (growslice_fits (by omega) (by rw [hby]; omega))
     have hge := grownCap_ge w (xs.length + 1) cap 25
     have hcm : grownCap w (xs.length + 1) cap 25 ≤ maxLen := grownCap_le_maxLen w _ cap 25 (by simp only [maxLen]; omega)
     refine ⟨_, _, hr, .inr ⟨w.heap.size, 0, _, _, by simp, hb, heap_alloc_new w.drew _, by simp; omega, hcm, ?_, ?_⟩, ⟨rfl, rfl, rfl, by simp, fun k hk _ => by first | exact heap_alloc_old w.drew _ k hk | exact heap_alloc_old w.drew _ hk⟩, .inr rfl⟩
     · simp only [Array.size_append, List.size_toArray, size_zeroCells, List.length_cons, List.length_nil, cellsP_len]
       have : (Value.agg #[Value.int .i64 0, Value.int .i64 0]).cells.size = 2 := rfl
       rw [this]
       omega
     · rw [cellsP_snoc]
       have e3 : (cellsP xs ++ [Value.int .i64 x.f0, Value.int .i64 x.f1]).length = (xs ++ [x]).length * 2 := by rw [List.length_append, cellsP_len]; simp; omega
       rw [← e3]
       simp only [Array.toList_append, List.drop_zero]
       exact List.take_left

end Go.Proofs.Ytkocigldchiifaa.H

/- above: the pairs whose distance is above a height. -/
namespace Go.Proofs.Ytkocigldchiifaa.H
open Go.RowKit Go.Proofs.YtkocigldchiifaaW.PrintWords Go.Proofs.YtkocigldchiifaaW.PrintLast Go.Proofs.YtkocigldchiifaaW.PrintMore
open Go.Shelf Go.Proofs.Ytkocigldchiifaa.QA
attribute [local go_sem] Oper.semAt_some
set_option linter.unusedVariables false
set_option linter.unusedSimpArgs false


def abvRow (a b : List S59) (h : Int) (i m : Nat) : List S25 := ((List.range m).map fun k : Nat => (⟨(i : Int), (k : Int)⟩ : S25)).filter fun q => decide (h < farD (rd_T59 a q.f0) (rd_T59 b q.f1))
def abvTo (a b : List S59) (h : Int) (n : Nat) : List S25 := (List.range n).flatMap fun i => abvRow a b h i b.length
/-- The pairs whose distance is above a height. -/
def aboveOf (a b : List S59) (h : Int) : List S25 := abvTo a b h a.length
theorem abvRow_succ (a b : List S59) (h : Int) (i m : Nat) : abvRow a b h i (m + 1) = abvRow a b h i m ++ (if h < farD (rd_T59 a i) (rd_T59 b m) then [⟨(i : Int), (m : Int)⟩] else []) := by
 unfold abvRow
 rw [List.range_succ, List.map_append, List.filter_append]
 congr 1
 simp [List.filter_cons]
theorem abvTo_succ (a b : List S59) (h : Int) (n : Nat) : abvTo a b h (n + 1) = abvTo a b h n ++ abvRow a b h n b.length := by
 unfold abvTo
 rw [List.range_succ, List.flatMap_append]
 simp
theorem abvRow_pre (a b : List S59) (h : Int) (i : Nat) {m m' : Nat} (hm : m ≤ m') : abvRow a b h i m <+: abvRow a b h i m' := by
 induction hm with
 | refl => exact List.prefix_refl _
 | step _ ih => rw [abvRow_succ]; exact ih.trans (List.prefix_append _ _)
theorem abvTo_pre (a b : List S59) (h : Int) {m m' : Nat} (hm : m ≤ m') : abvTo a b h m <+: abvTo a b h m' := by
 induction hm with
 | refl => exact List.prefix_refl _
 | step _ ih => rw [abvTo_succ]; exact ih.trans (List.prefix_append _ _)
theorem abv_pre (a b : List S59) (h : Int) {n m : Nat} (hn : n < a.length) (hm : m ≤ b.length) : abvTo a b h n ++ abvRow a b h n m <+: aboveOf a b h := by
 refine List.IsPrefix.trans ?_ (abvTo_pre a b h (show n + 1 ≤ a.length from hn))
 rw [abvTo_succ]
 exact (List.prefix_append_right_inj _).2 (abvRow_pre a b h n hm)
theorem mem_above (a b : List S59) (h : Int) (q : S25) : q ∈ aboveOf a b h ↔ hasP a b q.f0 q.f1 = true ∧ h < farD (rd_T59 a q.f0) (rd_T59 b q.f1) := by
 unfold aboveOf abvTo abvRow
 rw [hasP_iff]
 simp only [List.mem_flatMap, List.mem_range, List.mem_filter, List.mem_map, decide_eq_true_iff]
 constructor
 · rintro ⟨i, hi, ⟨k, hk, rfl⟩, hf⟩
   exact ⟨⟨by simp; omega, by simp; omega⟩, hf⟩
 · rintro ⟨⟨h1, h2⟩, hf⟩
   obtain ⟨x, y⟩ := q
   simp only at h1 h2 hf ⊢
   refine ⟨x.toNat, by omega, ⟨y.toNat, by omega, ?_⟩, hf⟩
   rw [Int.toNat_of_nonneg h1.1, Int.toNat_of_nonneg h2.1]
/-- What the body of a loop over these pairs keeps. -/
structure KpA (n₀ B1 B2 : Nat) (W W' : World) : Prop where
 below : Below n₀ W W'
 b1 : ∀ (cs : Array Value) (t : TypeId) (fz : Nat × Nat), W.heap[B1]? = some (Obj.cells cs t fz) → W'.heap[B1]? = some (Obj.cells cs t fz)
 b2 : ∀ (cs : Array Value) (t : TypeId) (fz : Nat × Nat), W.heap[B2]? = some (Obj.cells cs t fz) → W'.heap[B2]? = some (Obj.cells cs t fz)
theorem KpA.trans' {n₀ B1 B2 : Nat} {X Y Z : World} (h : KpA n₀ B1 B2 X Y) (k : KpA n₀ B1 B2 Y Z) : KpA n₀ B1 B2 X Z :=
 ⟨h.below.trans k.below, fun cs t fz hg => k.b1 cs t fz (h.b1 cs t fz hg), fun cs t fz hg => k.b2 cs t fz (h.b2 cs t fz hg)⟩
theorem KpA.putObj {n₀ B1 B2 : Nat} {w : World} (hn : n₀ ≤ w.heap.size) (W : World) (l : Nat) (o o' : Obj) (hl : w.heap.size ≤ l) (h : W.heap[l]? = some o) (hc : o.isCells = false) (hw : o.isWalk = false) : KpA n₀ B1 B2 W (W.putObj l o') := by
 have hfar : ∀ (g : Nat) (cs : Array Value) (t : TypeId) (fz : Nat × Nat), W.heap[g]? = some (Obj.cells cs t fz) → (W.putObj l o').heap[g]? = some (Obj.cells cs t fz) := fun g cs t fz hg => by
  rw [World.putObj_heap_other (fun e => by subst e; rw [h] at hg; cases hg; cases hc)]; exact hg
 exact ⟨belowK_b (w := w) hn W l o o' hl h hc hw, fun cs t fz hg => hfar _ cs t fz hg, fun cs t fz hg => hfar _ cs t fz hg⟩
theorem KpA.of_below {n₀ B1 B2 : Nat} {W W' : World} (hb : Below W.heap.size W W') (hn : n₀ ≤ W.heap.size) : KpA n₀ B1 B2 W W' :=
 ⟨hb.mono hn, fun _ _ _ hg => (hb.block _ (Array.getElem?_eq_some_iff.1 hg).1).trans hg, fun _ _ _ hg => (hb.block _ (Array.getElem?_eq_some_iff.1 hg).1).trans hg⟩
set_option maxRecDepth 100000 in
/-- (*table).above: its arguments are boxed, the function value captures the boxes. -/
theorem above_in (n : Nat) (g : Nat) (h : Int) (w : World) :
    CallsIn Fence.wide n Try.prog 55 #[.pointer (some ⟨g, 0, none⟩), .int .i64 h] w fun e w' =>
      e = .returned (.func (.func 76) #[] #[.pointer (some ⟨w.heap.size, 0, none⟩), .pointer (some ⟨w.heap.size + 1, 0, none⟩)]) ∧
      w' = (w.alloc (.cells #[.pointer (some ⟨g, 0, none⟩)] 80)).alloc (.cells #[.int .i64 h] 3) := by
  have hu25 := Try.underlying25
  refine callsIn_of_wp Try.func55 rfl trivial ?_ rfl
  simp only [Try.ntmps55, List.size_toArray, List.length_cons, List.length_nil, Nat.reduceAdd, Nat.reduceSub, Array.replicate_succ, Array.replicate_zero, List.push_toArray, List.append_toArray, List.nil_append, List.cons_append]
  gi_wp2
  go_ret
  exact ⟨rfl, rfl⟩
def above7_T : Bool × List (List Nat × List Nat) := (true, [([], []), ([], []), ([0, 1], [0, 1]), ([], []), ([2, 3], [2, 3]), ([4, 2], [4]), ([5], [5]), ([5], [5]), ([6, 7, 5, 5], [5, 6, 7]), ([8, 5], [5, 8]), ([5, 9], [5, 9])])
def above7_B : List Nat := [0, 0, 3, 0, 15, 31, 63, 63, 255, 511, 1023]
theorem above7_tab : rtab .any (opsOf Try.f76 7) = above7_T := by kernel_rfl
theorem above7_bits : waitsOk above7_T.2 above7_B = true := by kernel_rfl
theorem yield_bool {e : Ending} {A B : Prop} (h : (e = .returned (.bool true) ∧ A) ∨ (e = .returned (.bool false) ∧ B)) : ∃ q, e = .returned (.bool q) ∧ (q = true → A) ∧ (q = false → B) := by
 rcases h with ⟨h1, h2⟩ | ⟨h1, h2⟩
 · exact ⟨true, h1, fun _ => h2, fun h => by cases h⟩
 · exact ⟨false, h1, (fun h => by cases h), fun _ => h2⟩
/-- The state of the iterator's loops. -/
structure Ab (J : List S25 → World → Prop) (n₀ : Nat) (W : World) (Bt Bh g : Nat) (hh : Int) (pre : List S25) (wr : World) : Prop where
 j : J pre wr
 low : Below n₀ W wr
 bt : wr.heap[Bt]? = some (.cells #[.pointer (some ⟨g, 0, none⟩)] 80 (0, 0))
 bh : wr.heap[Bh]? = some (.cells #[.int .i64 hh] 3 (0, 0))
section
variable {J : List S25 → World → Prop} {n₀ : Nat} {W wr w2 W3 : World} {Bt Bh g : Nat} {hh : Int} {pre pre' : List S25}
theorem Ab.below (h : Ab J n₀ W Bt Bh g hh pre wr) (hJ : AbidesFrom W.heap.size J) (hn : n₀ ≤ W.heap.size) (hb : Below wr.heap.size wr w2) : Ab J n₀ W Bt Bh g hh pre w2 :=
 ⟨hJ _ _ _ none h.j (grown_of_below hb none) (fun r e => by cases e), h.low.trans (hb.mono (Nat.le_trans hn h.low.size)), blk_below h.bt hb, blk_below h.bh hb⟩
theorem Ab.step (h : Ab J n₀ W Bt Bh g hh pre w2) (hj : J pre' W3) (hk : KpA n₀ Bt Bh w2 W3) : Ab J n₀ W Bt Bh g hh pre' W3 := ⟨hj, h.low.trans hk.below, hk.b1 _ _ _ h.bt, hk.b2 _ _ _ h.bh⟩
end
set_option maxHeartbeats 4000000 in
set_option maxRecDepth 100000 in
/-- (*table).above$1 -/
theorem above1_in (n : Nat) (hn : 1 ≤ n) (lp Bt Bh g n₀ : Nat) (a b : List S59) (hh : Int) (hR : Rolls a b) (J Jx : List S25 → World → Prop)
    (hY : ∀ pre x W, pre ++ [x] <+: aboveOf a b hh → J pre W → YieldAt Fence.wide (n - 1) Try.prog lp #[.agg #[.int .i64 x.f0, .int .i64 x.f1]] W fun e W' =>
      (e = .returned (.bool true) ∧ J (pre ++ [x]) W' ∧ KpA n₀ Bt Bh W W') ∨ (e = .returned (.bool false) ∧ Jx (pre ++ [x]) W'))
    (W : World) (hJ : AbidesFrom W.heap.size J)
    (htb : W.heap[Bt]? = some (.cells #[.pointer (some ⟨g, 0, none⟩)] 80 (0, 0))) (hth : W.heap[Bh]? = some (.cells #[.int .i64 hh] 3 (0, 0)))
    (hT : ∀ W', Below n₀ W W' → Tb W' g a b) (hn0 : n₀ ≤ W.heap.size) (h0 : J [] W) :
    CallsIn Fence.wide n Try.prog 76 #[.func (.yield lp) #[] #[], .pointer (some ⟨Bt, 0, none⟩), .pointer (some ⟨Bh, 0, none⟩)] W fun e W' => (∃ v, e = .returned v) ∧
      ((∃ ys, ys = aboveOf a b hh ∧ J ys W') ∨ (∃ pre, pre <+: aboveOf a b hh ∧ Jx pre W')) := by
  have HR := Aside0.mk hR
  have HY := Aside0.mk hY
  have HJ := Aside0.mk hJ
  have HT := Aside0.mk hT
  have HN := Aside0.mk hn0
  have HJ0 := Aside0.mk h0
  have hu25 := Try.underlying25
  have HTB := Aside0.mk htb
  have HTH := Aside0.mk hth
  have hg := hT W (Below.refl _ _)
  obtain ⟨A0, c0, A1, c1, hgt, hCa, hCb⟩ := hg
  have cg0 : W.cell? ⟨g, 0, none⟩ = some (.slice A0 a.length c0) := (blk_cell hgt 0).trans rfl
  have ct : W.cell? ⟨Bt, 0, none⟩ = some (.pointer (some ⟨g, 0, none⟩)) := (blk_cell htb 0).trans rfl
  clear hY hJ hT htb hth hn0 h0 hCa hCb hgt
  refine callsIn_of_wp Try.func76 rfl trivial ?_ rfl
  simp only [Try.ntmps76, List.size_toArray, List.length_cons, List.length_nil, Nat.reduceAdd, Nat.reduceSub, Array.replicate_succ, Array.replicate_zero, List.push_toArray, List.append_toArray, List.nil_append, List.cons_append]
  gi_wp2
  gi_loopw [12] (fun s12 wr => ∃ m : Nat, m ≤ a.length ∧ s12 = .int .i64 m ∧ Aside0 (Ab J n₀ W Bt Bh g hh (abvTo a b hh m) wr)) (fun s12 _ => a.length - (intOf s12).toNat)
  case atStart => exact ⟨0, by omega, rfl, ⟨⟨HJ0.out, Below.refl _ _, HTB.out, HTH.out⟩⟩⟩
  case round =>
    clear HJ0 HTB HTH ct cg0
    obtain ⟨m, hm, rfl, HA⟩ := hrel
    have hal := HR.out.ha
    have hbl := HR.out.hb
    by_cases hlt : m < a.length
    · have hdec : decide ((m : Int) < (a.length : Int)) = true := decide_eq_true (by omega)
      obtain ⟨A0', c0', A1', c1', hgt, -, -⟩ := HT.out wr HA.out.low
      have cg1 : wr.cell? ⟨g, 1, none⟩ = some (.slice A1' b.length c1') := (blk_cell hgt 1).trans rfl
      have ct : wr.cell? ⟨Bt, 0, none⟩ = some (.pointer (some ⟨g, 0, none⟩)) := (blk_cell HA.out.bt 0).trans rfl
      clear hgt
      gi_wp2
      gi_loopw [20] (fun s20 wi => ∃ j : Nat, j ≤ b.length ∧ s20 = .int .i64 j ∧ Aside0 (Ab J n₀ W Bt Bh g hh (abvTo a b hh m ++ abvRow a b hh m j) wi)) (fun s20 _ => b.length - (intOf s20).toNat)
      case atStart => exact ⟨0, by omega, rfl, ⟨by simpa [abvRow] using HA.out⟩⟩
      case round =>
        clear ct cg1 HA hdec
        obtain ⟨j, hj, rfl, HA⟩ := hrel
        by_cases hlj : j < b.length
        · have hdec : decide ((j : Int) < (b.length : Int)) = true := decide_eq_true (by omega)
          have hcall := far_calls g a b (m : Int) (j : Int) ((wr.alloc (.cells #[.int .i64 (m : Int), .int .i64 (j : Int)] 25)).drew) ((HT.out wr HA.out.low).below (pw_below_drewN (below_alloc (Below.refl _ _) _) 1)) HR.out (by omega) (by omega) (by omega) (by omega)
          have hsu := abvRow_succ a b hh m j
          have hpr := abv_pre a b hh hlt (show j + 1 ≤ b.length from hlj)
          have ct : (wr.alloc (.cells #[.int .i64 (m : Int), .int .i64 (j : Int)] 25)).drew.cell? ⟨Bt, 0, none⟩ = some (.pointer (some ⟨g, 0, none⟩)) := (blk_cell (blk_below HA.out.bt (pw_below_drewN (below_alloc (Below.refl _ _) _) 1)) 0).trans rfl
          have ch : (wr.alloc (.cells #[.int .i64 (m : Int), .int .i64 (j : Int)] 25)).drew.cell? ⟨Bh, 0, none⟩ = some (.int .i64 hh) := (blk_cell (blk_below HA.out.bh (pw_below_drewN (below_alloc (Below.refl _ _) _) 1)) 0).trans rfl
          generalize hd : farD (rd_T59 a m) (rd_T59 b j) = d at hcall hsu
          have HC := Aside0.mk hcall
          have HS := Aside0.mk hsu
          have HPR := Aside0.mk hpr
          clear hcall hsu hpr hd
          by_cases hgt : hh < d
          · have hgb : decide (d > hh) = true := decide_eq_true hgt
            have hgc : decide (hh < d) = true := decide_eq_true hgt
            rw [if_pos hgt] at HS
            have HA1 := Aside0.mk (HA.out.below HJ.out HN.out (pw_below_drewN (below_alloc (Below.refl wr.heap.size wr) (.cells #[.int .i64 (m : Int), .int .i64 (j : Int)] 25)) 1))
            have HBX := Aside0.mk (blk_new wr (.cells #[.int .i64 (m : Int), .int .i64 (j : Int)] 25))
            gi_wp2
            gi_region_with (first | (refine ⟨trivial, ?_⟩; gi_at_call 47; refine (callsIn_wide.2 HC.out).mono ?_; rintro e w2 ⟨rfl, hb2⟩; have HA2 := Aside0.mk (HA1.out.below HJ.out HN.out hb2); have ch : w2.cell? ⟨Bh, 0, none⟩ = some (.int .i64 hh) := (blk_cell HA2.out.bh 0).trans rfl; have bx := blk_below (blk_below HBX.out (pw_below_drewN (Below.refl _ _) 1)) hb2; have h60 : w2.cell? ⟨wr.heap.size, 0, none⟩ = some (.int .i64 (m : Int)) := (blk_cell bx 0).trans rfl; have h61 : w2.cell? ⟨wr.heap.size, 1, none⟩ = some (.int .i64 (j : Int)) := (blk_cell bx 1).trans rfl; clear hb2 bx; obtain ⟨fn, tmps, assign, body, hy, hRY⟩ := HY.out (abvTo a b hh m ++ abvRow a b hh m j) ⟨(m : Int), (j : Int)⟩ w2 (by have hm := HPR.out; rw [HS.out, ← List.append_assoc] at hm; exact hm) HA2.out.j) | (refine hRY.mono ?_; rintro e W3 h3; obtain ⟨q, rfl, h4, h5⟩ := yield_bool h3; clear h3))
            all_goals
              have H4 := Aside0.mk h4
              have H5 := Aside0.mk h5
              clear h4 h5
              cases q with
              | true =>
                gi_wp2
                refine ⟨⟨j + 1, by omega, by go_num, ⟨?_⟩⟩, ?_⟩
                · rw [HS.out, ← List.append_assoc]
                  exact HA2.out.step (H4.out (by first | rfl | trivial)).1 (H4.out (by first | rfl | trivial)).2
                · simp [intOf]; omega
              | false =>
                gi_wp2
                refine bodyPost_ret (results_none rfl _ _ _) rfl ?_
                refine ⟨⟨_, rfl⟩, .inr ⟨_, ?_, H5.out (by first | rfl | trivial)⟩⟩
                have hm := HPR.out
                rw [HS.out, ← List.append_assoc] at hm
                exact hm
          · have hgb : decide (d > hh) = false := decide_eq_false hgt
            have hgc : decide (hh < d) = false := decide_eq_false hgt
            rw [if_neg hgt] at HS
            have HA1 := Aside0.mk (HA.out.below HJ.out HN.out (pw_below_drewN (below_alloc (Below.refl wr.heap.size wr) (.cells #[.int .i64 (m : Int), .int .i64 (j : Int)] 25)) 1))
            gi_wp2
            have KK := Aside0.mk (And.intro ct (And.intro ((blk_cell (blk_below (blk_new wr (.cells #[.int .i64 (m : Int), .int .i64 (j : Int)] 25)) (pw_below_drewN (Below.refl _ _) 1)) 0).trans rfl) (And.intro ((blk_cell (blk_below (blk_new wr (.cells #[.int .i64 (m : Int), .int .i64 (j : Int)] 25)) (pw_below_drewN (Below.refl _ _) 1)) 1).trans rfl) ch)) : _ ∧ (wr.alloc (.cells #[.int .i64 (m : Int), .int .i64 (j : Int)] 25)).drew.cell? ⟨wr.heap.size, 0, none⟩ = some (.int .i64 (m : Int)) ∧ (wr.alloc (.cells #[.int .i64 (m : Int), .int .i64 (j : Int)] 25)).drew.cell? ⟨wr.heap.size, 1, none⟩ = some (.int .i64 (j : Int)) ∧ _)
            clear ct ch
            refine (wpIn_wide (n := n)).2 ?_
            refine start_ (n := 11) (S := fun w' => w'.cell? ⟨Bt, 0, none⟩ = some (.pointer (some ⟨g, 0, none⟩)) ∧ w'.cell? ⟨wr.heap.size, 0, none⟩ = some (.int .i64 (m : Int)) ∧ w'.cell? ⟨wr.heap.size, 1, none⟩ = some (.int .i64 (j : Int)) ∧ w'.cell? ⟨Bh, 0, none⟩ = some (.int .i64 hh)) (ds := []) #[false, false, false, false, false, false, false, false, false, false, false] (by kernel_rfl) rfl rfl KK.out (fun hHeld => ?_)
            refine with_tabW above7_tab above7_bits (fun HT_ HW_ => ?_)
            refine take_ (i := 0) (N := some 26) (v := ?_) (a' := ?_) #[true, false, false, false, false, false, false, false, false, false, false] rfl rfl (take_ofW HT_.out HW_.out (by kernel_rfl)) (fun _ _ _ h => h) (Or.inl ⟨by rfl, ?_⟩) hHeld ?_ ?_
            rotate_left
            · rintro w' ⟨s0, s1, s2, s3⟩
              go_simp
              with_reducible rfl
            rotate_left
            · simp only [Act.put, List.setIfInBounds_toArray, List.set_cons_zero, List.set_cons_succ, i64_w, i32_w]
              rfl
            refine take_ (i := 1) (N := some 27) (v := ?_) (a' := ?_) #[true, true, false, false, false, false, false, false, false, false, false] rfl rfl (take_ofW HT_.out HW_.out (by kernel_rfl)) (fun _ _ _ h => h) (Or.inl ⟨by rfl, ?_⟩) hHeld ?_ ?_
            rotate_left
            · rintro w' ⟨s0, s1, s2, s3⟩
              go_simp
              with_reducible rfl
            rotate_left
            · simp only [Act.put, List.setIfInBounds_toArray, List.set_cons_zero, List.set_cons_succ, i64_w, i32_w]
              rfl
            refine take_ (i := 3) (N := some 29) (v := ?_) (a' := ?_) #[true, true, false, true, false, false, false, false, false, false, false] rfl rfl (take_ofW HT_.out HW_.out (by kernel_rfl)) (fun _ _ _ h => h) (Or.inl ⟨by rfl, ?_⟩) hHeld ?_ ?_
            rotate_left
            · rintro w' ⟨s0, s1, s2, s3⟩
              go_simp
              with_reducible rfl
            rotate_left
            · simp only [Act.put, List.setIfInBounds_toArray, List.set_cons_zero, List.set_cons_succ, i64_w, i32_w]
              rfl
            refine one_ (i := 2) (N := some 28) #[true, true, true, true, false, false, false, false, false, false, false] rfl rfl (one_of HT_.out (by kernel_rfl)) (by decide) (fun K hK => ?_)
            refine goes_ Try.func47 (by kernel_rfl) rfl #[.pointer (some ⟨g, 0, none⟩), .agg #[.int .i64 (m : Int), .int .i64 (j : Int)]] (by rfl) rfl rfl (by (try simp only [List.map_toArray, List.map_cons, List.map_nil]); first | done | rfl) ?_
            refine (HC.out).mono ?_
            rintro e w2 ⟨rfl, hbb⟩
            refine ⟨_, rfl, ?_⟩
            replace KK := Aside0.mk (And.intro (pw_cell_below hbb KK.out.1) (And.intro (pw_cell_below hbb KK.out.2.1) (And.intro (pw_cell_below hbb KK.out.2.2.1) (pw_cell_below hbb KK.out.2.2.2))))
            have HA2 := Aside0.mk (HA1.out.below HJ.out HN.out hbb)
            clear hbb
            refine hK.out _ _ KK.out (fun hHeld => ?_)
            clear hK K
            refine norm_ (a' := ?_) ?_ ?_
            rotate_left
            · show Act.put _ (some 28) _ = _
              simp only [Act.put, List.setIfInBounds_toArray, List.set_cons_zero, List.set_cons_succ, i64_w, i32_w]
              rfl
            refine take_ (i := 4) (N := some 30) (v := ?_) (a' := ?_) #[true, true, true, true, true, false, false, false, false, false, false] rfl rfl (take_ofW HT_.out HW_.out (by kernel_rfl)) (fun _ _ _ h => h) (Or.inl ⟨by rfl, ?_⟩) hHeld ?_ ?_
            rotate_left
            · rintro w' ⟨s0, s1, s2, s3⟩
              go_simp
              with_reducible rfl
            rotate_left
            · simp only [Act.put, List.setIfInBounds_toArray, List.set_cons_zero, List.set_cons_succ, i64_w, i32_w]
              rfl
            refine take_ (i := 5) (N := some 31) (v := ?_) (a' := ?_) #[true, true, true, true, true, true, false, false, false, false, false] rfl rfl (take_ofW HT_.out HW_.out (by kernel_rfl)) (fun _ _ _ h => h) (Or.inl ⟨by rfl, ?_⟩) hHeld ?_ ?_
            rotate_left
            · rintro w' ⟨s0, s1, s2, s3⟩
              go_simp
              with_reducible rfl
            rotate_left
            · simp only [Act.put, List.setIfInBounds_toArray, List.set_cons_zero, List.set_cons_succ, i64_w, i32_w]
              rfl
            refine take_ (i := 6) (N := some 32) (v := undef) (a' := ?_) #[true, true, true, true, true, true, true, false, false, false, false] rfl rfl (take_ofW HT_.out HW_.out (by kernel_rfl)) (fun _ _ _ h => h) (Or.inr ⟨by rfl, rfl⟩) hHeld ?_ ?_
            rotate_left
            · simp only [Act.put, List.setIfInBounds_toArray, List.set_cons_zero, List.set_cons_succ, i64_w, i32_w]
              rfl
            refine take_ (i := 7) (N := some 33) (v := undef) (a' := ?_) #[true, true, true, true, true, true, true, true, false, false, false] rfl rfl (take_ofW HT_.out HW_.out (by kernel_rfl)) (fun _ _ _ h => h) (Or.inr ⟨by rfl, rfl⟩) hHeld ?_ ?_
            rotate_left
            · simp only [Act.put, List.setIfInBounds_toArray, List.set_cons_zero, List.set_cons_succ, i64_w, i32_w]
              rfl
            refine take_ (i := 8) (N := some 34) (v := undef) (a' := ?_) #[true, true, true, true, true, true, true, true, true, false, false] rfl rfl (take_ofW HT_.out HW_.out (by kernel_rfl)) (fun _ _ _ h => h) (Or.inr ⟨by rfl, rfl⟩) hHeld ?_ ?_
            rotate_left
            · simp only [Act.put, List.setIfInBounds_toArray, List.set_cons_zero, List.set_cons_succ, i64_w, i32_w]
              rfl
            refine take_ (i := 9) (N := some 35) (v := undef) (a' := ?_) #[true, true, true, true, true, true, true, true, true, true, false] rfl rfl (take_ofW HT_.out HW_.out (by kernel_rfl)) (fun _ _ _ h => h) (Or.inr ⟨by rfl, rfl⟩) hHeld ?_ ?_
            rotate_left
            · simp only [Act.put, List.setIfInBounds_toArray, List.set_cons_zero, List.set_cons_succ, i64_w, i32_w]
              rfl
            refine take_ (i := 10) (N := some 36) (v := ?_) (a' := ?_) #[true, true, true, true, true, true, true, true, true, true, true] rfl rfl (take_ofW HT_.out HW_.out (by kernel_rfl)) (fun _ _ _ h => h) (Or.inl ⟨by rfl, ?_⟩) hHeld ?_ ?_
            rotate_left
            · rintro w' ⟨s0, s1, s2, s3⟩
              go_simp
              with_reducible rfl
            rotate_left
            · simp only [Act.put, List.setIfInBounds_toArray, List.set_cons_zero, List.set_cons_succ, i64_w, i32_w]
              rfl
            refine done_ (done_of HT_.out (by kernel_rfl)) ?_
            gi_wp2
            refine ⟨⟨j + 1, by omega, by go_num, ⟨?_⟩⟩, ?_⟩
            · rw [HS.out, List.append_nil]
              exact HA2.out
            · simp [intOf]; omega
        · have hdec : decide ((j : Int) < (b.length : Int)) = false := decide_eq_false (by omega)
          obtain rfl : j = b.length := by omega
          gi_wp2
          go_roundw
          case rel =>
            refine ⟨m + 1, by omega, by go_num, ⟨?_⟩⟩
            rw [abvTo_succ]
            exact HA.out
          case measure => simp [intOf]; omega
    · have hdec : decide ((m : Int) < (a.length : Int)) = false := decide_eq_false (by omega)
      obtain rfl : m = a.length := by omega
      gi_wp2
      go_end0
      exact ⟨⟨_, rfl⟩, .inl ⟨_, rfl, HA.out.j⟩⟩
/-- The pairs above a height, as an iterator. -/
theorem above_stops (n : Nat) (hn : 1 ≤ n) (Bt Bh g n₀ : Nat) (a b : List S59) (hh : Int) (hR : Rolls a b) (w : World)
    (htb : w.heap[Bt]? = some (.cells #[.pointer (some ⟨g, 0, none⟩)] 80 (0, 0))) (hth : w.heap[Bh]? = some (.cells #[.int .i64 hh] 3 (0, 0)))
    (hT : ∀ W', Below n₀ w W' → Tb W' g a b) (hn0 : n₀ ≤ w.heap.size) :
    SeqStopsK Fence.wide n Try.prog 76 #[.pointer (some ⟨Bt, 0, none⟩), .pointer (some ⟨Bh, 0, none⟩)] (fun x : {q : S25 // q ∈ aboveOf a b hh} => #[Value.agg #[.int .i64 x.1.f0, .int .i64 x.1.f1]]) (KpA n₀ Bt Bh) (fun ys => ys.map (·.1) = aboveOf a b hh) (fun pre => pre.map (·.1) <+: aboveOf a b hh) (aboveOf a b hh).length w := by
  intro lp J Jx W hW hJ hJx hY h0
  have hab : ∀ {J : List {q : S25 // q ∈ aboveOf a b hh} → World → Prop}, AbidesFrom W.heap.size J → AbidesFrom W.heap.size (fun (pre : List S25) X => ∃ ys : List {q : S25 // q ∈ aboveOf a b hh}, ys.map (·.1) = pre ∧ J ys X) := fun hJ s A B row hs hg hr => by
    obtain ⟨ys, h1, h2⟩ := hs
    exact ⟨ys, h1, hJ ys A B row h2 hg hr⟩
  refine (above1_in n hn lp Bt Bh g n₀ a b hh hR (fun pre X => ∃ ys : List {q : S25 // q ∈ aboveOf a b hh}, ys.map (·.1) = pre ∧ J ys X) (fun pre X => ∃ ys : List {q : S25 // q ∈ aboveOf a b hh}, ys.map (·.1) = pre ∧ Jx ys X) ?_ W (hab hJ) (blk_below htb hW) (blk_below hth hW)
    (fun W' hb => hT W' ((hW.mono hn0).trans hb)) (Nat.le_trans hn0 hW.size) ⟨[], rfl, h0⟩).mono ?_
  · rintro pre x X hp ⟨ys, hys, hJ1⟩
    have hx : x ∈ aboveOf a b hh := hp.subset (by simp)
    have hlen : ys.length < (aboveOf a b hh).length := by
     have := hp.length_le
     rw [← hys] at this
     simp at this
     omega
    obtain ⟨fn, tmps, assign, body, hy, hR⟩ := hY ys ⟨x, hx⟩ X hJ1 hlen
    refine ⟨fn, tmps, assign, body, hy, hR.mono ?_⟩
    rintro e W' (⟨h1, h2, h3⟩ | ⟨h1, h2⟩)
    · exact .inl ⟨h1, ⟨ys ++ [⟨x, hx⟩], by simp [hys], h2⟩, h3⟩
    · exact .inr ⟨h1, ys ++ [⟨x, hx⟩], by simp [hys], h2⟩
  · rintro e W' ⟨hv, (⟨pre, h1, ys, h2, h3⟩ | ⟨pre, h1, ys, h2, h3⟩)⟩
    · exact ⟨hv, .inl ⟨ys, h2.trans h1, h3⟩⟩
    · exact ⟨hv, .inr ⟨ys, (by show List.map _ ys <+: _; rw [h2]; exact h1), h3⟩⟩

end Go.Proofs.Ytkocigldchiifaa.H

/- Barriers: pairs above a height, one behind the other; a search in breadth. -/
namespace Go.Proofs.Ytkocigldchiifaa.H
open Go.RowKit Go.Proofs.YtkocigldchiifaaW.PrintWords Go.Proofs.YtkocigldchiifaaW.PrintLast Go.Proofs.YtkocigldchiifaaW.PrintMore
open Go.Shelf Go.Proofs.Ytkocigldchiifaa.QA
set_option linter.unusedVariables false
set_option linter.unusedSimpArgs false

/-- A pair that a list can end with, which begins and of which each one comes behind the one before it. -/
inductive Chn (a b : List S59) (h : Int) : S25 → Prop
 | beg (p : S25) : p ∈ aboveOf a b h → begB a b p.f0 p.f1 = true → Chn a b h p
 | step (q p : S25) : Chn a b h q → p ∈ aboveOf a b h → preB q p = true → Chn a b h p
/-- A barrier. -/
structure BarOK (a b : List S59) (h : Int) (l : List S25) : Prop where
 ne : l ≠ []
 mem : ∀ q ∈ l, q ∈ aboveOf a b h
 nxt : ∀ (i : Nat) (p q : S25), l[i]? = some p → l[i + 1]? = some q → preB p q = true
 beg : ∀ p, l[0]? = some p → begB a b p.f0 p.f1 = true
 fin : ∀ p, l.getLast? = some p → endB a b p.f0 p.f1 = true
theorem BarOK.chn {a b : List S59} {h : Int} {l : List S25} (hb : BarOK a b h l) : ∃ p, Chn a b h p ∧ endB a b p.f0 p.f1 = true := by
 have h1 : ∀ (i : Nat) (p : S25), l[i]? = some p → Chn a b h p := by
  intro i
  induction i with
  | zero => exact fun p hp => .beg p (hb.mem p (List.mem_of_getElem? hp)) (hb.beg p hp)
  | succ i ih =>
   intro p hp
   have hlt := (List.getElem?_eq_some_iff.1 hp).1
   have hq : l[i]? = some (l[i]'(by omega)) := List.getElem?_eq_getElem (by omega)
   exact .step _ p (ih _ hq) (hb.mem p (List.mem_of_getElem? hp)) (hb.nxt i _ p hq hp)
 have hne := hb.ne
 refine ⟨l.getLast hne, ?_, hb.fin _ (List.getLast?_eq_some_getLast hne)⟩
 refine h1 (l.length - 1) _ ?_
 rw [← List.getLast?_eq_getElem?]
 exact List.getLast?_eq_some_getLast hne
/-- The way back from a pair to one that begins. -/
inductive Bk (a b : List S59) (f : Int → Int → Option S25) : S25 → List S25 → Prop
 | beg (p : S25) : f p.f0 p.f1 = some p → begB a b p.f0 p.f1 = true → Bk a b f p [p]
 | step (p q : S25) (l : List S25) : f p.f0 p.f1 = some q → q ≠ p → preB q p = true → Bk a b f q l → Bk a b f p (p :: l)
theorem Bk.mono {a b : List S59} {f f' : Int → Int → Option S25} {p : S25} {l : List S25} (h : Bk a b f p l) (hf : ∀ x y e, f x y = some e → f' x y = some e) : Bk a b f' p l := by
 induction h with
 | beg p h1 h2 => exact .beg p (hf _ _ _ h1) h2
 | step p q l h1 h2 h3 _ ih => exact .step p q l (hf _ _ _ h1) h2 h3 ih
theorem Bk.spec {a b : List S59} {f : Int → Int → Option S25} {p : S25} {l : List S25} (h : Bk a b f p l) : l[0]? = some p ∧ (∀ q, l.getLast? = some q → begB a b q.f0 q.f1 = true) ∧ ∀ (i : Nat) (q r : S25), l[i]? = some q → l[i + 1]? = some r → preB r q = true := by
 induction h with
 | beg p h1 h2 => exact ⟨rfl, fun q hq => by cases hq; exact h2, fun i q r _ hr => by simp at hr⟩
 | step p q l h1 h2 h3 _ ih =>
  obtain ⟨i1, i2, i3⟩ := ih
  refine ⟨rfl, fun r hr => ?_, fun i x y hx hy => ?_⟩
  · cases l with
    | nil => simp at i1
    | cons z zs => exact i2 r (by simpa using hr)
  · cases i with
    | zero =>
     simp only [List.getElem?_cons_zero, List.getElem?_cons_succ, Option.some.injEq, Nat.zero_add] at hx hy
     subst hx
     rw [i1] at hy
     cases hy
     exact h3
    | succ i => exact i3 i x y (by simpa using hx) (by simpa using hy)
theorem Bk.bar {a b : List S59} {f : Int → Int → Option S25} {p : S25} {l : List S25} {h : Int} (hk : Bk a b f p l) (hm : ∀ q ∈ l, q ∈ aboveOf a b h) (he : endB a b p.f0 p.f1 = true) : BarOK a b h l.reverse := by
 obtain ⟨h1, h2, h3⟩ := hk.spec
 have hne : l ≠ [] := fun e => by rw [e] at h1; cases h1
 refine ⟨by simpa using hne, fun q hq => hm q (by simpa using hq), fun i x y hx hy => ?_, fun x hx => ?_, fun x hx => ?_⟩
 · have hlt := (List.getElem?_eq_some_iff.1 hy).1
   rw [List.length_reverse] at hlt
   rw [List.getElem?_reverse (by omega)] at hx hy
   exact h3 _ y x hy (by rw [← hx]; congr 1; omega)
 · refine h2 x ?_
   rw [← List.head?_reverse, List.head?_eq_getElem?]
   exact hx
 · rw [List.getLast?_reverse, List.head?_eq_getElem?, h1] at hx
   cases hx
   exact he
theorem nodup_le (n : Nat) : ∀ (l : List Nat), l.Nodup → (∀ x ∈ l, x < n) → l.length ≤ n := by
 induction n with
 | zero =>
  intro l _ h
  cases l with
  | nil => simp
  | cons x l => exact absurd (h x List.mem_cons_self) (by omega)
 | succ n ih =>
  intro l hn h
  by_cases hm : n ∈ l
  · have h1 := ih (l.erase n) (hn.erase n) (fun x hx => by
     have h2 := h x (List.mem_of_mem_erase hx)
     have h3 : x ≠ n := fun e => by subst e; exact (List.Nodup.mem_erase_iff hn).1 hx |>.1 rfl
     omega)
    have h4 := List.length_erase_of_mem hm
    omega
  · have h1 := ih l hn (fun x hx => by
     have h2 := h x hx
     have h3 : x ≠ n := fun e => hm (e ▸ hx)
     omega)
    omega
theorem nodup_map_on {α β : Type} (g : α → β) : ∀ (l : List α), l.Nodup → (∀ x ∈ l, ∀ y ∈ l, g x = g y → x = y) → (l.map g).Nodup
 | [], _, _ => List.nodup_nil
 | x :: l, h, hg => by
  rw [List.nodup_cons] at h
  rw [List.map_cons, List.nodup_cons]
  refine ⟨fun hm => ?_, nodup_map_on g l h.2 (fun x hx y hy => hg x (List.mem_cons_of_mem _ hx) y (List.mem_cons_of_mem _ hy))⟩
  obtain ⟨y, hy, e⟩ := List.mem_map.1 hm
  exact h.1 (hg y (List.mem_cons_of_mem _ hy) x List.mem_cons_self e ▸ hy)
theorem above_few {a b : List S59} {h : Int} (hR : Rolls a b) (l : List S25) (hn : l.Nodup) (hm : ∀ q ∈ l, q ∈ aboveOf a b h) : l.length ≤ 900 := by
 have hin : ∀ q ∈ l, (0 ≤ q.f0 ∧ q.f0 < 30) ∧ (0 ≤ q.f1 ∧ q.f1 < 30) := fun q hq => by
  have h1 := (hasP_iff a b _ _).1 ((mem_above a b h q).1 (hm q hq)).1
  have := hR.ha
  have := hR.hb
  omega
 have h1 := nodup_le 900 (l.map fun q => q.f0.toNat * 30 + q.f1.toNat) (nodup_map_on _ l hn (fun x hx y hy e => by
  have := hin x hx
  have := hin y hy
  obtain ⟨x0, x1⟩ := x
  obtain ⟨y0, y1⟩ := y
  simp only at *
  have e1 : x0 = y0 := by omega
  have e2 : x1 = y1 := by omega
  rw [e1, e2])) (fun n hn => by
  obtain ⟨q, hq, rfl⟩ := List.mem_map.1 hn
  have := hin q hq
  omega)
 simpa using h1
/-- The search's state: the pairs ps have been met, one behind the other; f says from which each was met. -/
structure Bf (a b : List S59) (h : Int) (k : Nat) (ps : List S25) (f : Int → Int → Option S25) : Prop where
 mem : ∀ q ∈ ps, q ∈ aboveOf a b h
 dom : ∀ x y, (f x y).isSome = true ↔ (⟨x, y⟩ : S25) ∈ ps
 path : ∀ q ∈ ps, ∃ l, Bk a b f q l ∧ l.length ≤ ps.length ∧ ∀ r ∈ l, r ∈ aboveOf a b h
 few : k ≤ 900 ∧ k ≤ ps.length ∧ (ps.drop k).Nodup
 val : ∀ x y e, f x y = some e → e ∈ ps
theorem Bf.start (a b : List S59) (h : Int) : Bf a b h 0 [] (fun _ _ => none) := by
 exact ⟨fun q hq => (by cases hq), fun x y => (by simp), fun q hq => (by cases hq), ⟨by omega, by simp, by simp⟩, fun x y e he => (by cases he)⟩
theorem Bf.len {a b : List S59} {h : Int} {k : Nat} {ps : List S25} {f : Int → Int → Option S25} (hb : Bf a b h k ps f) (hR : Rolls a b) : ps.length ≤ 1800 := by
 have h1 := above_few hR (ps.drop k) hb.few.2.2 (fun q hq => hb.mem q (List.mem_of_mem_drop hq))
 have := hb.few
 rw [List.length_drop] at h1
 omega
theorem Bf.all {a b : List S59} {h : Int} {k : Nat} {ps : List S25} {f : Int → Int → Option S25} (hb : Bf a b h k ps f) (hl : ps.length ≤ 900) : Bf a b h ps.length ps f := ⟨hb.mem, hb.dom, hb.path, ⟨hl, Nat.le_refl _, by simp⟩, hb.val⟩
/-- One that begins. -/
theorem Bf.push0 {a b : List S59} {h : Int} {ps : List S25} {f : Int → Int → Option S25} {x : S25} (hb : Bf a b h ps.length ps f) (hid : ∀ y z e, f y z = some e → e = ⟨y, z⟩) (hl : ps.length < 900) (hx : x ∈ aboveOf a b h) (hg : begB a b x.f0 x.f1 = true) :
  Bf a b h (ps ++ [x]).length (ps ++ [x]) (upd f x.f0 x.f1 x) ∧ ∀ y z e, upd f x.f0 x.f1 x y z = some e → e = ⟨y, z⟩ := by
 have hup : ∀ y z e, f y z = some e → upd f x.f0 x.f1 x y z = some e := fun y z e he => by
  unfold upd
  split
  · rename_i hc
    rw [hid y z e he, hc.1, hc.2]
  · exact he
 have hxx : upd f x.f0 x.f1 x x.f0 x.f1 = some x := by unfold upd; rw [if_pos ⟨rfl, rfl⟩]
 have hid' : ∀ y z e, upd f x.f0 x.f1 x y z = some e → e = ⟨y, z⟩ := fun y z e he => by
  unfold upd at he
  split at he
  · rename_i hc
    cases he
    rw [hc.1, hc.2]
  · exact hid y z e he
 refine ⟨⟨fun q hq => ?_, fun y z => ?_, fun q hq => ?_, by simp; omega, fun y z e he => ?_⟩, hid'⟩
 · rcases List.mem_append.1 hq with hq | hq
   · exact hb.mem q hq
   · rw [List.mem_singleton.1 hq]; exact hx
 · rw [List.mem_append, ← hb.dom y z, List.mem_singleton]
   unfold upd
   constructor
   · intro he
     split at he
     · rename_i hc
       right
       rw [hc.1, hc.2]
     · exact .inl he
   · rintro (he | he)
     · split
       · rfl
       · exact he
     · have e0 := congrArg S25.f0 he
       have e1 := congrArg S25.f1 he
       simp only at e0 e1
       rw [if_pos ⟨e0, e1⟩]
       rfl
 · rcases List.mem_append.1 hq with hq | hq
   · obtain ⟨l, h1, h2, h3⟩ := hb.path q hq
     exact ⟨l, h1.mono hup, by simp; omega, h3⟩
   · rw [List.mem_singleton.1 hq]
     exact ⟨[x], .beg x hxx hg, by simp, fun r hr => by rw [List.mem_singleton.1 hr]; exact hx⟩
 · rw [hid' y z e he, List.mem_append]
   unfold upd at he
   split at he
   · rename_i hc
     right
     rw [hc.1, hc.2]
     simp
   · exact .inl ((hb.dom y z).1 (by rw [he]; rfl))
/-- One behind another. -/
theorem Bf.push {a b : List S59} {h : Int} {k : Nat} {ps : List S25} {f : Int → Int → Option S25} {p x : S25} (hb : Bf a b h k ps f) (hx : x ∈ aboveOf a b h) (hn : x ∉ ps) (hp : p ∈ ps) (hg : preB p x = true) :
  Bf a b h k (ps ++ [x]) (upd f x.f0 x.f1 p) := by
 have hnone : f x.f0 x.f1 = none := by
  cases he : f x.f0 x.f1 with
  | none => rfl
  | some e => exact absurd ((hb.dom x.f0 x.f1).1 (by rw [he]; rfl)) hn
 have hup : ∀ y z e, f y z = some e → upd f x.f0 x.f1 p y z = some e := fun y z e he => by
  unfold upd
  split
  · rename_i hc
    rw [hc.1, hc.2, hnone] at he
    cases he
  · exact he
 have hxx : upd f x.f0 x.f1 p x.f0 x.f1 = some p := by unfold upd; rw [if_pos ⟨rfl, rfl⟩]
 refine ⟨fun q hq => ?_, fun y z => ?_, fun q hq => ?_, ⟨hb.few.1, by have := hb.few; simp; omega, ?_⟩, fun y z e he => ?_⟩
 · rcases List.mem_append.1 hq with hq | hq
   · exact hb.mem q hq
   · rw [List.mem_singleton.1 hq]; exact hx
 · rw [List.mem_append, ← hb.dom y z, List.mem_singleton]
   unfold upd
   constructor
   · intro he
     split at he
     · rename_i hc
       right
       rw [hc.1, hc.2]
     · exact .inl he
   · rintro (he | he)
     · split
       · rfl
       · exact he
     · have e0 := congrArg S25.f0 he
       have e1 := congrArg S25.f1 he
       simp only at e0 e1
       rw [if_pos ⟨e0, e1⟩]
       rfl
 · rcases List.mem_append.1 hq with hq | hq
   · obtain ⟨l, h1, h2, h3⟩ := hb.path q hq
     exact ⟨l, h1.mono hup, by simp; omega, h3⟩
   · rw [List.mem_singleton.1 hq]
     obtain ⟨l, h1, h2, h3⟩ := hb.path p hp
     refine ⟨x :: l, .step x p l hxx (fun e => hn (e ▸ hp)) hg (h1.mono hup), by simp; omega, fun r hr => ?_⟩
     rcases List.mem_cons.1 hr with rfl | hr
     · exact hx
     · exact h3 r hr
 · rw [List.drop_append_of_le_length hb.few.2.1, List.nodup_append]
   refine ⟨hb.few.2.2, by simp, fun q hq y hy => ?_⟩
   rw [List.mem_singleton.1 hy]
   exact fun e => hn (e ▸ List.mem_of_mem_drop hq)
 · rw [List.mem_append]
   unfold upd at he
   split at he
   · cases he
     exact .inl hp
   · exact .inl (hb.val y z e he)
/-- The search has come to its end: no list of this kind ends. -/
theorem closed_none {a b : List S59} {h : Int} (ps : List S25) (hbeg : ∀ q ∈ aboveOf a b h, begB a b q.f0 q.f1 = true → q ∈ ps) (hcl : ∀ p ∈ ps, endB a b p.f0 p.f1 = false ∧ ∀ q ∈ aboveOf a b h, preB p q = true → q ∈ ps) (p : S25) (hc : Chn a b h p) : endB a b p.f0 p.f1 = false := by
 have h1 : p ∈ ps := by
  induction hc with
  | beg p h1 h2 => exact hbeg p h1 h2
  | step q p _ h1 h2 ih => exact (hcl q ih).2 p h1 h2
 exact (hcl p h1).1

end Go.Proofs.Ytkocigldchiifaa.H

/- The queue of pairs. -/
namespace Go.Proofs.Ytkocigldchiifaa.H
open Go.RowKit Go.Proofs.YtkocigldchiifaaW.PrintWords Go.Proofs.YtkocigldchiifaaW.PrintLast Go.Proofs.YtkocigldchiifaaW.PrintMore
open Go.Shelf Go.Proofs.Ytkocigldchiifaa.QA
attribute [local go_sem] Oper.semAt_some
set_option linter.unusedVariables false
set_option linter.unusedSimpArgs false



def push1_T : Bool × List (List Nat × List Nat) := (true, [([], []), ([], []), ([1], [1]), ([2], [2]), ([3], [3]), ([], []), ([5], [5]), ([4, 6], [4, 6]), ([0, 0, 1, 2, 3, 4, 5, 6, 7], [0]), ([8, 0, 1, 2, 3, 4, 5, 6, 7], [8]), ([9, 7, 7, 0, 1, 2, 3, 4, 5, 6, 7], [7, 9])])
def push1_B : List Nat := [0, 0, 2, 6, 14, 0, 32, 126, 255, 511, 1023]
theorem push1_tab : rtab .any (opsOf Try.f57 1) = push1_T := by kernel_rfl
theorem push1_bits : waitsOk push1_T.2 push1_B = true := by kernel_rfl

theorem tail_some {W : World} {base : Nat} {v : Value} {xs : List S25} (h : Tail W base v xs) (hx : xs ≠ []) : ∃ g off cap, v = .slice (some ⟨g, off, none⟩) xs.length cap := by
 rcases h with ⟨_, h⟩ | ⟨g, off, cap, cur, h, _⟩
 · exact absurd h hx
 · exact ⟨g, off, cap, h⟩
theorem step_tail {ops : Array Oper} {o : Oper} {a : Act} {K : Act → World → Prop} {Q : Exit → Act → World → Prop} {W : World} {base : Nat} (hw : Region.wanted o (yielded ops a.tmps) = true) (s x : Operand)
  (ho : o.op = .call { callee := .builtin .append, args := #[s, x], argTypes := #[38, 38] }) (hty : o.type = 38) (v : Value) (xs : List S25) (p : S25) (hs : a.eval s = v) (hx : a.eval x = .slice (some ⟨W.heap.size, 0, none⟩) 1 1)
  (ht : Tail W base v xs) (hb : base ≤ W.heap.size) (hl : xs.length < 100000)
  (h : ∀ v1 w1, Tail w1 base v1 (xs ++ [p]) → W.grownBy w1 v.ownBlock → (v1.ownBlock = v.ownBlock ∨ ∃ b, v1.ownBlock = some b ∧ W.heap.size ≤ b) → K (a.put o.dst v1) w1) :
  if Region.wanted o (yielded ops a.tmps) = true then Oper.wp Try.prog o a (W.alloc (.cells #[.int .i64 p.f0, .int .i64 p.f1] 25)) K Q else K (a.put o.dst undef) (W.alloc (.cells #[.int .i64 p.f0, .int .i64 p.f1] 25)) := by
 rw [if_pos hw]
 obtain ⟨v1, w1, hr, h1, h2, h3⟩ := run_append_tail (W.alloc (.cells #[.int .i64 p.f0, .int .i64 p.f1] 25)) base v xs p ⟨W.heap.size, 0, none⟩ 1 (ht.below (below_alloc (Below.refl _ _) _)) (by simp; omega) hl (by simpa using cell_two_new W (.int .i64 p.f0) (.int .i64 p.f1) 25)
 unfold Oper.wp execOp
 simp only [ho, hty, resolve, invoke, builtin, Sem.run_bind, Sem.run_pure, Result.andThen_ok, List.map_toArray, List.map_cons, List.map_nil, hs, hx, hr]
 refine h v1 w1 h1 (World.grownBy.trans (World.grownBy_alloc W _ _) h2) ?_
 rcases h3 with h3 | h3
 · exact .inl h3
 · exact .inr ⟨_, h3, by simp⟩
set_option maxRecDepth 100000 in
/-- (*queue).push -/
theorem push_calls (gq base : Nat) (v : Value) (xs : List S25) (x : S25) (w : World) (hq : w.heap[gq]? = some (.cells #[v] 102 (0, 0))) (ht : Tail w base v xs) (hb : base ≤ w.heap.size) (hl : xs.length < 100000) :
  Calls Try.prog 57 #[.pointer (some ⟨gq, 0, none⟩), .agg #[.int .i64 x.f0, .int .i64 x.f1]] w fun e w' => (∃ u, e = .returned u) ∧ ∃ v', w'.heap[gq]? = some (.cells #[v'] 102 (0, 0)) ∧ Tail w' base v' (xs ++ [x]) ∧ Fr w w' gq v.ownBlock ∧ (v'.ownBlock = v.ownBlock ∨ ∃ b, v'.ownBlock = some b ∧ w.heap.size ≤ b) := by
 have hu25 := Try.underlying25
 have hu102 := Try.underlying102
 have HQ0 := Aside0.mk hq
 have HT0 := Aside0.mk ht
 have hltq := blk_lt2 hq
 clear hq ht
 go_enter Try.func57, Try.ntmps57
 go_wp2
 have hbb : Below w.heap.size w ((w.alloc (.cells #[.int .i64 x.f0, .int .i64 x.f1] 25)).drew) := pw_below_drewN (below_alloc (Below.refl w.heap.size w) (.cells #[.int .i64 x.f0, .int .i64 x.f1] 25)) 1
 have hq1 := blk_below2 hbb HQ0.out
 have hx1 : ((w.alloc (.cells #[.int .i64 x.f0, .int .i64 x.f1] 25)).drew).heap[w.heap.size]? = some (.cells #[.int .i64 x.f0, .int .i64 x.f1] 25 (0, 0)) := blk_below (blk_new w (.cells #[.int .i64 x.f0, .int .i64 x.f1] 25)) (pw_below_drewN (Below.refl _ _) 1)
 have KK := Aside0.mk (And.intro ((blk_cell hq1 0).trans rfl : _ = some v) (And.intro ((blk_cell hx1 0).trans rfl : _ = some (Value.int .i64 x.f0)) ((blk_cell hx1 1).trans rfl : _ = some (Value.int .i64 x.f1))))
 have HNE := Aside0.mk (show some w.heap.size ≠ v.ownBlock from fun e => by have := (HT0.out.lt _ e.symm).2.1; omega)
 have HTL := Aside0.mk (HT0.out.below hbb)
 have hsz : w.heap.size + 1 = ((w.alloc (.cells #[.int .i64 x.f0, .int .i64 x.f1] 25)).drew).heap.size := by simp
 have HBB := Aside0.mk hbb
 have HQ1 := Aside0.mk hq1
 have HX1 := Aside0.mk hx1
 clear hbb hq1 hx1
 refine start_ (n := 11) (S := fun w' => w'.cell? ⟨gq, 0, none⟩ = some v ∧ w'.cell? ⟨w.heap.size, 0, none⟩ = some (.int .i64 x.f0) ∧ w'.cell? ⟨w.heap.size, 1, none⟩ = some (.int .i64 x.f1)) (ds := [10]) #[false, false, false, false, false, false, false, false, false, false, false] (by kernel_rfl) rfl rfl KK.out (fun hHeld => ?_)
 refine with_tabW push1_tab push1_bits (fun HT_ HW_ => ?_)
 generalize ((w.alloc (Obj.cells #[Value.int IntKind.i64 x.f0, Value.int IntKind.i64 x.f1] 25)).drew) = w1 at *
 refine take_ (i := 0) (N := some 4) (v := ?_) (a' := ?_) #[true, false, false, false, false, false, false, false, false, false, false] rfl rfl (take_ofW HT_.out HW_.out (by kernel_rfl)) (fun _ _ _ h => h) (Or.inl ⟨by rfl, ?_⟩) hHeld ?_ ?_
 rotate_left
 · rintro w' ⟨s0, s1, s2⟩
   go_simp
   with_reducible rfl
 rotate_left
 · simp only [Act.put, List.setIfInBounds_toArray, List.set_cons_zero, List.set_cons_succ, i64_w, i32_w]
   rfl
 refine take_ (i := 1) (N := some 5) (v := ?_) (a' := ?_) #[true, true, false, false, false, false, false, false, false, false, false] rfl rfl (take_ofW HT_.out HW_.out (by kernel_rfl)) (fun _ _ _ h => h) (Or.inl ⟨by rfl, ?_⟩) hHeld ?_ ?_
 rotate_left
 · rintro w' ⟨s0, s1, s2⟩
   go_simp
   with_reducible rfl
 rotate_left
 · simp only [Act.put, List.setIfInBounds_toArray, List.set_cons_zero, List.set_cons_succ, i64_w, i32_w]
   rfl
 refine take_ (i := 2) (N := some 6) (v := ?_) (a' := ?_) #[true, true, true, false, false, false, false, false, false, false, false] rfl rfl (take_ofW HT_.out HW_.out (by kernel_rfl)) (fun _ _ _ h => h) (Or.inl ⟨by rfl, ?_⟩) hHeld ?_ ?_
 rotate_left
 · rintro w' ⟨s0, s1, s2⟩
   go_simp
   with_reducible rfl
 rotate_left
 · simp only [Act.put, List.setIfInBounds_toArray, List.set_cons_zero, List.set_cons_succ, i64_w, i32_w]
   rfl
 refine take_ (i := 3) (N := some 7) (v := ?_) (a' := ?_) #[true, true, true, true, false, false, false, false, false, false, false] rfl rfl (take_ofW HT_.out HW_.out (by kernel_rfl)) (fun _ _ _ h => h) (Or.inl ⟨by rfl, ?_⟩) hHeld ?_ ?_
 rotate_left
 · rintro w' ⟨s0, s1, s2⟩
   go_simp
   with_reducible rfl
 rotate_left
 · simp only [Act.put, List.setIfInBounds_toArray, List.set_cons_zero, List.set_cons_succ, i64_w, i32_w]
   rfl
 refine take_ (i := 4) (N := some 8) (v := ?_) (a' := ?_) #[true, true, true, true, true, false, false, false, false, false, false] rfl rfl (take_ofW HT_.out HW_.out (by kernel_rfl)) (fun _ _ _ h => h) (Or.inl ⟨by rfl, ?_⟩) hHeld ?_ ?_
 rotate_left
 · rintro w' ⟨s0, s1, s2⟩
   go_simp
   with_reducible rfl
 rotate_left
 · simp only [Act.put, List.setIfInBounds_toArray, List.set_cons_zero, List.set_cons_succ, i64_w, i32_w]
   rfl
 refine take_ (i := 5) (N := some 9) (v := ?_) (a' := ?_) #[true, true, true, true, true, true, false, false, false, false, false] rfl rfl (take_ofW HT_.out HW_.out (by kernel_rfl)) (fun _ _ _ h => h) (Or.inl ⟨by rfl, ?_⟩) hHeld ?_ ?_
 rotate_left
 · rintro w' ⟨s0, s1, s2⟩
   go_simp
   with_reducible rfl
 rotate_left
 · simp only [Act.put, List.setIfInBounds_toArray, List.set_cons_zero, List.set_cons_succ, i64_w, i32_w]
   rfl
 refine one_ (i := 6) (N := some 10) #[true, true, true, true, true, true, true, false, false, false, false] rfl rfl (one_of HT_.out (by kernel_rfl)) (by decide) (fun K hK => ?_)
 refine value_ (v := .slice (some ⟨w1.heap.size, 0, none⟩) 1 1) (w1 := w1.alloc (.cells #[.int .i64 x.f0, .int .i64 x.f1] 25)) (by rfl) rfl (by go_simp) ?_
 have hba := below_alloc (Below.refl w1.heap.size w1) (.cells #[.int .i64 x.f0, .int .i64 x.f1] 25)
 have KA := Aside0.mk (And.intro (pw_cell_below hba KK.out.1) (And.intro (pw_cell_below hba KK.out.2.1) (pw_cell_below hba KK.out.2.2)))
 clear hba
 refine hK.out _ _ KA.out (fun hHeld => ?_)
 clear hK K
 refine norm_ (a' := ?_) ?_ ?_
 rotate_left
 · show Act.put _ (some 10) _ = _
   simp only [Act.put, List.setIfInBounds_toArray, List.set_cons_zero, List.set_cons_succ, i64_w, i32_w]
   rfl
 refine one_ (i := 7) (N := some 11) #[true, true, true, true, true, true, true, true, false, false, false] rfl rfl (one_of HT_.out (by kernel_rfl)) (by decide) (fun K hK => ?_)
 refine step_tail (W := w1) (base := base) (by rfl) (.tmp 8) (.tmp 10) rfl rfl v xs x rfl rfl HTL.out (by omega) (by omega) ?_
 intro v1 w2 ht1 hg1 hat1
 obtain ⟨g1, off1, cap1, rfl⟩ := tail_some ht1 (by simp)
 have hq2 : w2.heap[gq]? = some (.cells #[v] 102 (0, 0)) := (hg1.block gq (blk_lt2 HQ1.out) (HTL.out.ne HQ1.out (fun cur e => by cases e))).trans HQ1.out
 have hx2 : w2.heap[w.heap.size]? = some (.cells #[.int .i64 x.f0, .int .i64 x.f1] 25 (0, 0)) := (hg1.block _ (blk_lt2 HX1.out) HNE.out).trans HX1.out
 have hHeld2 := And.intro ((blk_cell hq2 0).trans rfl : w2.cell? ⟨gq, 0, none⟩ = some v) (And.intro ((blk_cell hx2 0).trans rfl : w2.cell? ⟨w.heap.size, 0, none⟩ = some (.int .i64 x.f0)) ((blk_cell hx2 1).trans rfl : w2.cell? ⟨w.heap.size, 1, none⟩ = some (.int .i64 x.f1)))
 have HQ2 := Aside0.mk hq2
 have HT2 := Aside0.mk (And.intro ht1 (And.intro hg1 hat1))
 clear ht1 hg1 hat1 hx2
 refine hK.out _ _ hHeld2 (fun hHeld => ?_)
 clear hK K hHeld2
 refine norm_ (a' := ?_) ?_ ?_
 rotate_left
 · show Act.put _ (some 11) _ = _
   simp only [Act.put, List.setIfInBounds_toArray, List.set_cons_zero, List.set_cons_succ, i64_w, i32_w]
   rfl
 refine take_ (i := 8) (N := some 12) (v := ?_) (a' := ?_) #[true, true, true, true, true, true, true, true, true, false, false] rfl rfl (take_ofW HT_.out HW_.out (by kernel_rfl)) (fun _ _ _ h => h) (Or.inl ⟨by rfl, ?_⟩) hHeld ?_ ?_
 rotate_left
 · rintro w' ⟨s0, s1, s2⟩
   go_simp
   with_reducible rfl
 rotate_left
 · simp only [Act.put, List.setIfInBounds_toArray, List.set_cons_zero, List.set_cons_succ, i64_w, i32_w]
   rfl
 refine take_ (i := 9) (N := some 13) (v := ?_) (a' := ?_) #[true, true, true, true, true, true, true, true, true, true, false] rfl rfl (take_ofW HT_.out HW_.out (by kernel_rfl)) (fun _ _ _ h => h) (Or.inl ⟨by rfl, ?_⟩) hHeld ?_ ?_
 rotate_left
 · rintro w' ⟨s0, s1, s2⟩
   go_simp
   with_reducible rfl
 rotate_left
 · simp only [Act.put, List.setIfInBounds_toArray, List.set_cons_zero, List.set_cons_succ, i64_w, i32_w]
   rfl
 have hfz := blk_frozen hq2 0
 have hcq := hHeld.1
 refine last_ (i := 10) (N := none) #[true, true, true, true, true, true, true, true, true, true, true] rfl rfl (one_of HT_.out (by kernel_rfl)) (by decide) (fun K hK => ?_)
 refine store_step (by rfl) rfl (w1 := w2.setCell ⟨gq, 0, none⟩ (.slice (some ⟨g1, off1, none⟩) (xs ++ [x]).length cap1)) (by go_simp) ?_
 refine hK.out _ _ ?_
 clear hK K
 refine done_ (done_of HT_.out (by kernel_rfl)) ?_
 go_end0
 refine ⟨⟨_, rfl⟩, .slice (some ⟨g1, off1, none⟩) (xs ++ [x]).length cap1, ?_, ?_, ?_, ?_⟩
 · simp [World.setCell, Array.getElem?_modify, HQ2.out]
 · refine HT2.out.1.kept (fun j cur hj hc => ?_)
   rw [Below.heap_setCell _ _ _ _ (fun e => by subst e; rw [HQ2.out] at hc; cases hc)]
   exact hc
 · have hg1 := HT2.out.2.1
   have hb := HBB.out
   refine ⟨hg1.os.trans hb.os, hg1.tape.trans hb.tape, hg1.output.trans hb.output, Nat.le_trans hb.size (Nat.le_trans hg1.size (by simp)), fun g hg hne hr => ?_⟩
   rw [Below.heap_setCell _ _ _ _ hne]
   exact (hg1.block g (Nat.lt_of_lt_of_le hg hb.size) hr).trans (hb.block g hg)
 · rcases HT2.out.2.2 with h | ⟨b, h1, h2⟩
   · exact .inl h
   · exact .inr ⟨b, h1, Nat.le_trans HBB.out.size h2⟩
theorem Tail.pop {W : World} {base g off n cap : Nat} {x : S25} {xs : List S25} (h : Tail W base (.slice (some ⟨g, off, none⟩) n cap) (x :: xs)) :
  1 ≤ cap ∧ Tail W base (.slice (some ⟨g, off + 2, none⟩) xs.length (cap - 1)) xs ∧ (cap = 1 → Tail W base (.slice (some ⟨g, off, none⟩) xs.length 0) xs) := by
 rcases h with ⟨h1, _⟩ | ⟨g', off', cap', cur, h1, h2, h3, h4, h5, h6, h7⟩
 · cases h1
 · cases h1
   rw [List.length_cons] at h4 h7
   have h8 : (cur.toList.drop (off + 2)).take (xs.length * 2) = cellsP xs := by
    have h9 := congrArg (List.drop 2) h7
    rw [List.drop_take, List.drop_drop, cellsP_cons, show (xs.length + 1) * 2 - 2 = xs.length * 2 by omega] at h9
    simpa using h9
   refine ⟨by omega, .inr ⟨g, off + 2, cap - 1, cur, rfl, h2, h3, by omega, by omega, by omega, h8⟩, fun e => ?_⟩
   have hn : xs = [] := List.eq_nil_of_length_eq_zero (by omega)
   subst hn
   exact .inr ⟨g, off, 0, cur, rfl, h2, h3, by simp, by omega, by omega, by simp [cellsP]⟩
set_option maxRecDepth 100000 in
/-- (*queue).pop: there is none. -/
theorem pop_none (gq : Nat) (A : Option Addr) (c : Nat) (w : World) (hq : w.heap[gq]? = some (.cells #[.slice A 0 c] 102 (0, 0))) :
  Calls Try.prog 58 #[.pointer (some ⟨gq, 0, none⟩)] w fun e w' => e = .returned (.tuple #[.agg #[.int .i64 0, .int .i64 0], .bool false]) ∧ Below w.heap.size w w' := by
 have hu25 := Try.underlying25
 have hu102 := Try.underlying102
 have cq : w.cell? ⟨gq, 0, none⟩ = some (.slice A 0 c) := (blk_cell hq 0).trans rfl
 have hltq := blk_lt2 hq
 have cq1 := ((below_alloc (Below.refl w.heap.size w) (.cells #[.int .i64 0, .int .i64 0] 25)).cell (p := ⟨gq, 0, none⟩) hltq).trans cq
 clear hq
 have hbb := below_alloc (below_alloc (Below.refl w.heap.size w) (.cells #[.int .i64 0, .int .i64 0] 25)) (.cells #[.int .i64 0, .int .i64 0] 25)
 have hbk := blk_alloc (blk_new w (.cells #[.int .i64 0, .int .i64 0] 25)) (.cells #[.int .i64 0, .int .i64 0] 25)
 have HB := Aside0.mk (And.intro hbb hbk)
 clear hbb hbk
 go_enter Try.func58, Try.ntmps58
 go_wp2
 refine bodyPost_ret (results_ct rfl _ _ w.heap.size 25 #[.int .i64 0, .int .i64 0] (0, 0) _ rfl HB.out.2 hu25 rfl (by rfl)) rfl ?_
 exact ⟨rfl, HB.out.1⟩
set_option maxRecDepth 100000 in
/-- (*queue).pop: the first one. -/
theorem pop_some (gq base g off cap : Nat) (x : S25) (xs : List S25) (w : World) (hq : w.heap[gq]? = some (.cells #[.slice (some ⟨g, off, none⟩) (xs.length + 1) cap] 102 (0, 0))) (ht : Tail w base (.slice (some ⟨g, off, none⟩) (xs.length + 1) cap) (x :: xs)) :
  Calls Try.prog 58 #[.pointer (some ⟨gq, 0, none⟩)] w fun e w' => e = .returned (.tuple #[.agg #[.int .i64 x.f0, .int .i64 x.f1], .bool true]) ∧ ∃ v', w'.heap[gq]? = some (.cells #[v'] 102 (0, 0)) ∧ Tail w' base v' xs ∧ Fr w w' gq none ∧ v'.ownBlock = some g := by
 have hu25 := Try.underlying25
 have hu102 := Try.underlying102
 have cq : w.cell? ⟨gq, 0, none⟩ = some (.slice (some ⟨g, off, none⟩) (xs.length + 1) cap) := (blk_cell hq 0).trans rfl
 have fq := blk_frozen hq 0
 have hltq := blk_lt2 hq
 have hx0 : w.cell? ⟨g, off, none⟩ = some (.int .i64 x.f0) := (Tail.cells ht).2 0 _ (by rw [cellsP_cons]; rfl)
 have hx1 : w.cell? ⟨g, off + 1, none⟩ = some (.int .i64 x.f1) := (Tail.cells ht).2 1 _ (by rw [cellsP_cons]; rfl)
 have hlg : g < w.heap.size := (ht.lt g rfl).2.1
 have HQ := Aside0.mk hq
 have HT := Aside0.mk ht
 clear hq ht
 have hfin : ∀ V : Value, Tail w base V xs → V.ownBlock = some g → ((((w.setCell ⟨gq, 0, none⟩ V).alloc (.cells #[.int .i64 x.f0, .int .i64 x.f1] 25)).alloc (.cells #[.int .i64 x.f0, .int .i64 x.f1] 25)).heap[w.heap.size]? = some (.cells #[.int .i64 x.f0, .int .i64 x.f1] 25 (0, 0))) ∧
   ∃ v', (((w.setCell ⟨gq, 0, none⟩ V).alloc (.cells #[.int .i64 x.f0, .int .i64 x.f1] 25)).alloc (.cells #[.int .i64 x.f0, .int .i64 x.f1] 25)).heap[gq]? = some (.cells #[v'] 102 (0, 0)) ∧ Tail (((w.setCell ⟨gq, 0, none⟩ V).alloc (.cells #[.int .i64 x.f0, .int .i64 x.f1] 25)).alloc (.cells #[.int .i64 x.f0, .int .i64 x.f1] 25)) base v' xs ∧ Fr w (((w.setCell ⟨gq, 0, none⟩ V).alloc (.cells #[.int .i64 x.f0, .int .i64 x.f1] 25)).alloc (.cells #[.int .i64 x.f0, .int .i64 x.f1] 25)) gq none ∧ v'.ownBlock = some g := fun V hV hg => by
  have hbb := below_alloc (below_alloc (Below.refl (w.setCell ⟨gq, 0, none⟩ V).heap.size (w.setCell ⟨gq, 0, none⟩ V)) (.cells #[.int .i64 x.f0, .int .i64 x.f1] 25)) (.cells #[.int .i64 x.f0, .int .i64 x.f1] 25)
  have hz : (w.setCell ⟨gq, 0, none⟩ V).heap.size = w.heap.size := by simp
  refine ⟨by simpa using blk_alloc (blk_new (w.setCell ⟨gq, 0, none⟩ V) (.cells #[.int .i64 x.f0, .int .i64 x.f1] 25)) (.cells #[.int .i64 x.f0, .int .i64 x.f1] 25), V, blk_below2 hbb (by simp [World.setCell, Array.getElem?_modify, HQ.out]), ?_, ⟨rfl, rfl, rfl, by simp; omega, fun k hk hne _ => ?_⟩, hg⟩
  · refine Tail.below (hV.kept fun j cur hj hc => ?_) hbb
    rw [Below.heap_setCell _ _ _ _ (fun e => by subst e; rw [HQ.out] at hc; cases hc)]
    exact hc
  · exact (hbb.block k (by omega)).trans (Below.heap_setCell _ _ _ _ hne)
 have HF := Aside0.mk hfin
 have HP := Aside0.mk (Tail.pop HT.out)
 have hcap : 1 ≤ cap := HP.out.1
 clear hfin
 go_enter Try.func58, Try.ntmps58
 go_wp2
 case inl =>
  have h1 := HF.out _ (HP.out.2.2 (by first | rfl | omega)) rfl
  refine bodyPost_ret (results_ct rfl _ _ w.heap.size 25 #[.int .i64 x.f0, .int .i64 x.f1] (0, 0) _ rfl h1.1 hu25 rfl (by rfl)) rfl ?_
  exact ⟨rfl, h1.2⟩
 case inr =>
  have h1 := HF.out _ HP.out.2.1 rfl
  refine bodyPost_ret (results_ct rfl _ _ w.heap.size 25 #[.int .i64 x.f0, .int .i64 x.f1] (0, 0) _ rfl h1.1 hu25 rfl (by rfl)) rfl ?_
  exact ⟨rfl, h1.2⟩

end Go.Proofs.Ytkocigldchiifaa.H

/- slices.Reverse at pairs, on a row of one's own. -/
namespace Go.Proofs.Ytkocigldchiifaa.H
open Go.RowKit Go.Proofs.YtkocigldchiifaaW.PrintWords Go.Proofs.YtkocigldchiifaaW.PrintLast Go.Proofs.YtkocigldchiifaaW.PrintMore
open Go.Shelf Go.Proofs.Ytkocigldchiifaa.QA
attribute [local go_sem] Oper.semAt_some
set_option linter.unusedVariables false
set_option linter.unusedSimpArgs false



def rev3_T : Bool × List (List Nat × List Nat) := (true, [([], []), ([], []), ([], []), ([], []), ([], []), ([], []), ([4, 5], [4, 5]), ([6], [6]), ([], []), ([], []), ([8, 9], [8, 9]), ([10], [10]), ([0, 1, 0, 1, 4, 5, 6, 7, 11], [0, 1]), ([12, 7, 0, 1, 4, 5, 6, 7, 11], [7, 12]), ([2, 3, 0, 1, 2, 3, 4, 5, 6, 7, 8, 9, 10, 11, 12, 13], [2, 3]), ([14, 11, 13, 0, 1, 2, 3, 4, 5, 6, 7, 8, 9, 10, 11, 12, 13], [11, 14])])
def rev3_B : List Nat := [0, 0, 0, 0, 0, 0, 48, 112, 0, 0, 768, 1792, 4083, 8179, 16383, 32767]
theorem rev3_tab : rtab .any (opsOf Try.f60 3) = rev3_T := by kernel_rfl
theorem rev3_bits : waitsOk rev3_T.2 rev3_B = true := by kernel_rfl

/-- Block g holds the pairs ys ahead of what follows. -/
def Rv (W : World) (g cap : Nat) (ys : List S25) : Prop := ∃ cur, W.heap[g]? = some (.cells cur 25 (0, 0)) ∧ cur.size = cap * 2 ∧ cur.toList.take (ys.length * 2) = cellsP ys
theorem cellsP_set (ys : List S25) (k : Nat) (p : S25) : cellsP (ys.set k p) = ((cellsP ys).set (2 * k) (.int .i64 p.f0)).set (2 * k + 1) (.int .i64 p.f1) := by
 induction ys generalizing k with
 | nil => simp [cellsP]
 | cons y ys ih =>
  cases k with
  | zero => simp [cellsP_cons]
  | succ k =>
   rw [List.set_cons_succ, cellsP_cons, cellsP_cons, ih k, show 2 * (k + 1) = 2 * k + 1 + 1 by omega, show 2 * k + 1 + 1 + 1 = (2 * k + 1) + 1 + 1 by omega]
   simp only [List.set_cons_succ]
theorem cellsP_get (ys : List S25) (k : Nat) (hk : k < ys.length) : (cellsP ys)[2 * k]? = some (.int .i64 (ys.getD k ⟨0, 0⟩).f0) ∧ (cellsP ys)[2 * k + 1]? = some (.int .i64 (ys.getD k ⟨0, 0⟩).f1) := by
 induction ys generalizing k with
 | nil => simp at hk
 | cons y ys ih =>
  cases k with
  | zero => simp [cellsP_cons]
  | succ k =>
   have := ih k (by simpa using hk)
   rw [cellsP_cons, show 2 * (k + 1) = 2 * k + 1 + 1 by omega]
   simpa using this
theorem Rv.cells {W : World} {g cap : Nat} {ys : List S25} (h : Rv W g cap ys) (k : Nat) (hk : k < ys.length) : W.cell? ⟨g, 2 * k, none⟩ = some (.int .i64 (ys.getD k ⟨0, 0⟩).f0) ∧ W.cell? ⟨g, 2 * k + 1, none⟩ = some (.int .i64 (ys.getD k ⟨0, 0⟩).f1) := by
 obtain ⟨cur, h1, h2, h3⟩ := h
 obtain ⟨h4, h5⟩ := cellsP_get ys k hk
 rw [← h3, List.getElem?_take_of_lt (by omega), Array.getElem?_toList] at h4 h5
 unfold World.cell?
 simp only [h1]
 exact ⟨h4, h5⟩
theorem Rv.set {W : World} {g cap : Nat} {ys : List S25} (h : Rv W g cap ys) (k : Nat) (p : S25) : Rv ((W.setCell ⟨g, 2 * k, none⟩ (.int .i64 p.f0)).setCell ⟨g, 2 * k + 1, none⟩ (.int .i64 p.f1)) g cap (ys.set k p) := by
 obtain ⟨cur, h1, h2, h3⟩ := h
 refine ⟨(cur.setIfInBounds (2 * k) (.int .i64 p.f0)).setIfInBounds (2 * k + 1) (.int .i64 p.f1), by simp [World.setCell, Array.getElem?_modify, h1], by simp [h2], ?_⟩
 rw [List.length_set, cellsP_set, ← h3]
 simp only [Array.toList_setIfInBounds, List.take_set]
theorem Rv.cells' {W : World} {g cap : Nat} {ys : List S25} (h : Rv W g cap ys) (k : Nat) (hk : k < ys.length) : W.cell? ⟨g, k * 2, none⟩ = some (.int .i64 (ys.getD k ⟨0, 0⟩).f0) ∧ W.cell? ⟨g, k * 2 + 1, none⟩ = some (.int .i64 (ys.getD k ⟨0, 0⟩).f1) := by
 rw [Nat.mul_comm]
 exact h.cells k hk
theorem Rv.set' {W : World} {g cap : Nat} {ys : List S25} (h : Rv W g cap ys) (k : Nat) (p : S25) : Rv ((W.setCell ⟨g, k * 2, none⟩ (.int .i64 p.f0)).setCell ⟨g, k * 2 + 1, none⟩ (.int .i64 p.f1)) g cap (ys.set k p) := by
 rw [Nat.mul_comm]
 exact h.set k p
theorem Rv.froz {W : World} {g cap : Nat} {ys : List S25} (h : Rv W g cap ys) (k : Nat) : W.frozen? ⟨g, k, none⟩ = false := by
 obtain ⟨cur, h1, h2, h3⟩ := h
 exact blk_frozen h1 k
theorem Rv.lt {W : World} {g cap : Nat} {ys : List S25} (h : Rv W g cap ys) : g < W.heap.size := by
 obtain ⟨cur, h1, h2, h3⟩ := h
 exact blk_lt2 h1
theorem Rv.drew {W : World} {g cap : Nat} {ys : List S25} (h : Rv W g cap ys) : Rv W.drew g cap ys := h
theorem Rv.frame {W : World} {g : Nat} (k : Nat) (u v : Value) (hlt : g < W.heap.size) : Fr W ((W.setCell ⟨g, k, none⟩ u).setCell ⟨g, k + 1, none⟩ v) g none :=
 ⟨rfl, rfl, rfl, by simp, fun j _ hne _ => (Below.heap_setCell _ _ _ _ hne).trans (Below.heap_setCell _ _ _ _ hne)⟩
theorem Fr.trans {w w1 w2 : World} {g : Nat} (h : Fr w w1 g none) (k : Fr w1 w2 g none) : Fr w w2 g none :=
 ⟨k.os.trans h.os, k.tape.trans h.tape, k.output.trans h.output, Nat.le_trans h.size k.size, fun j hj hne hr => (k.but j (Nat.lt_of_lt_of_le hj h.size) hne hr).trans (h.but j hj hne hr)⟩
theorem Fr.refl (w : World) (g : Nat) : Fr w w g none := ⟨rfl, rfl, rfl, Nat.le_refl _, fun _ _ _ _ => rfl⟩
def revTo (xs : List S25) : Nat → List S25
 | 0 => xs
 | i + 1 => ((revTo xs i).set i ((revTo xs i).getD (xs.length - 1 - i) ⟨0, 0⟩)).set (xs.length - 1 - i) ((revTo xs i).getD i ⟨0, 0⟩)
theorem revTo_len (xs : List S25) (i : Nat) : (revTo xs i).length = xs.length := by
 induction i with
 | zero => rfl
 | succ i ih => simp [revTo, ih]
theorem revTo_get (xs : List S25) (i : Nat) (hi : 2 * i ≤ xs.length) (k : Nat) (hk : k < xs.length) : (revTo xs i)[k]? = if k < i ∨ xs.length - 1 - i < k then xs[xs.length - 1 - k]? else xs[k]? := by
 induction i generalizing k with
 | zero =>
  rw [if_neg (by omega)]
  rfl
 | succ i ih =>
  have h1 := ih (by omega) i (by omega)
  have h2 := ih (by omega) (xs.length - 1 - i) (by omega)
  rw [if_neg (by omega)] at h1 h2
  have e1 : (revTo xs i).getD i ⟨0, 0⟩ = xs[i]'(by omega) := by rw [List.getD_eq_getElem?_getD, h1, List.getElem?_eq_getElem (by omega)]; rfl
  have e2 : (revTo xs i).getD (xs.length - 1 - i) ⟨0, 0⟩ = xs[xs.length - 1 - i]'(by omega) := by rw [List.getD_eq_getElem?_getD, h2, List.getElem?_eq_getElem (by omega)]; rfl
  unfold revTo
  rw [e1, e2, List.getElem?_set, List.getElem?_set, List.length_set, revTo_len]
  by_cases c1 : xs.length - 1 - i = k
  · subst c1
    rw [if_pos rfl, if_pos (by omega), if_pos (by omega), show xs.length - 1 - (xs.length - 1 - i) = i by omega, List.getElem?_eq_getElem (by omega)]
  · rw [if_neg c1]
    by_cases c2 : i = k
    · subst c2
      rw [if_pos rfl, if_pos (by omega), if_pos (by omega), List.getElem?_eq_getElem (by omega)]
    · rw [if_neg c2, ih (by omega) k hk]
      by_cases c3 : k < i ∨ xs.length - 1 - i < k
      · rw [if_pos c3, if_pos (by omega)]
      · rw [if_neg c3, if_neg (by omega)]
theorem revTo_end (xs : List S25) (i : Nat) (hi : 2 * i ≤ xs.length) (he : xs.length ≤ 2 * i + 1) : revTo xs i = xs.reverse := by
 apply List.ext_getElem?
 intro k
 by_cases hk : k < xs.length
 · rw [revTo_get xs i hi k hk, List.getElem?_reverse hk]
   split
   · rfl
   · rw [show xs.length - 1 - k = k by omega]
 · rw [List.getElem?_eq_none (by rw [revTo_len]; omega), List.getElem?_eq_none (by rw [List.length_reverse]; omega)]
set_option maxRecDepth 100000 in
set_option maxHeartbeats 1000000 in
/-- slices.Reverse -/
theorem reverse_calls (g cap : Nat) (xs : List S25) (w : World) (h : Rv w g cap xs) (hl : xs.length ≤ 100000) (h1 : 1 ≤ xs.length) :
  Calls Try.prog 60 #[.slice (some ⟨g, 0, none⟩) xs.length cap] w fun e w' => (∃ u, e = .returned u) ∧ Rv w' g cap xs.reverse ∧ Fr w w' g none := by
 have hu25 := Try.underlying25
 have HR := Aside0.mk h
 clear h
 go_enter Try.func60, Try.ntmps60
 go_wp2
 go_loopw [2, 3] (fun s2 s3 wr => ∃ i j : Nat, 2 * i ≤ xs.length ∧ i + j + 1 = xs.length ∧ s2 = .int .i64 i ∧ s3 = .int .i64 j ∧ Aside0 (Rv wr g cap (revTo xs i)) ∧ Aside0 (Fr w wr g none)) (fun s2 _ _ => xs.length - (intOf s2).toNat)
 case atStart => exact ⟨0, xs.length - 1, by omega, by omega, rfl, by go_num, ⟨HR.out⟩, ⟨Fr.refl _ _⟩⟩
 case round =>
  obtain ⟨i, j, hi, hj, rfl, rfl, HR1, HF⟩ := hrel
  by_cases hlt : 2 * i + 1 < xs.length
  · have hd : decide ((i : Int) < (j : Int)) = true := decide_eq_true (by omega)
    go_wp2
    have hle := revTo_len xs i
    have hjn : j < xs.length := by omega
    have hin : i < xs.length := by omega
    have hsu : revTo xs (i + 1) = ((revTo xs i).set i ((revTo xs i).getD j ⟨0, 0⟩)).set j ((revTo xs i).getD i ⟨0, 0⟩) := by
     rw [revTo, show xs.length - 1 - i = j by omega]
    obtain ⟨c1, c2⟩ := HR1.out.drew.cells' i (by omega)
    obtain ⟨c3, c4⟩ := HR1.out.drew.cells' j (by omega)
    generalize (revTo xs i).getD i ⟨0, 0⟩ = p at c1 c2 hsu
    generalize (revTo xs i).getD j ⟨0, 0⟩ = q at c3 c4 hsu
    have KK := Aside0.mk (And.intro c1 (And.intro c2 (And.intro c3 c4)))
    have HSU := Aside0.mk hsu
    have R0 := Aside0.mk HR1.out.drew
    have R1 := Aside0.mk (R0.out.set' i q)
    have R2 := Aside0.mk (R1.out.set' j p)
    have f1 := R0.out.froz (i * 2)
    have f2 := R0.out.froz (i * 2 + 1)
    have f3 := R1.out.froz (j * 2)
    have f4 := R1.out.froz (j * 2 + 1)
    have hlg := HR1.out.lt
    have fr1 := Rv.frame (i * 2) (.int .i64 q.f0) (.int .i64 q.f1) (W := wr.drew) hlg
    have fr2 := Rv.frame (j * 2) (.int .i64 p.f0) (.int .i64 p.f1) (W := (wr.drew.setCell ⟨g, i * 2, none⟩ (.int .i64 q.f0)).setCell ⟨g, i * 2 + 1, none⟩ (.int .i64 q.f1)) (by simpa using hlg)
    have HFR := Aside0.mk ((HF.out.trans ⟨rfl, rfl, rfl, Nat.le_refl _, fun _ _ _ _ => rfl⟩ : Fr w wr.drew g none).trans (fr1.trans fr2))
    have q3 := (R1.out.cells' j (by simp; omega)).1
    have q4 := (R1.out.cells' j (by simp; omega)).2
    clear c1 c2 c3 c4 hsu fr1 fr2
    refine start_ (n := 16) (S := fun w' => w'.cell? ⟨g, i * 2, none⟩ = some (.int .i64 p.f0) ∧ w'.cell? ⟨g, i * 2 + 1, none⟩ = some (.int .i64 p.f1) ∧ w'.cell? ⟨g, j * 2, none⟩ = some (.int .i64 q.f0) ∧ w'.cell? ⟨g, j * 2 + 1, none⟩ = some (.int .i64 q.f1)) (ds := [13, 15]) #[false, false, false, false, false, false, false, false, false, false, false, false, false, false, false, false] (by kernel_rfl) rfl rfl KK.out (fun hHeld => ?_)
    refine with_tabW rev3_tab rev3_bits (fun HT_ HW_ => ?_)
    generalize wr.drew = w1 at *
    refine take_ (i := 0) (N := some 14) (v := ?_) (a' := ?_) #[true, false, false, false, false, false, false, false, false, false, false, false, false, false, false, false] rfl rfl (take_ofW HT_.out HW_.out (by kernel_rfl)) (fun _ _ _ h => h) (Or.inl ⟨by rfl, ?_⟩) hHeld ?_ ?_
    rotate_left
    · rintro w' ⟨s0, s1, s2, s3⟩
      go_simp
      with_reducible rfl
    rotate_left
    · simp only [Act.put, List.setIfInBounds_toArray, List.set_cons_zero, List.set_cons_succ, i64_w, i32_w]
      rfl
    refine take_ (i := 1) (N := some 15) (v := ?_) (a' := ?_) #[true, true, false, false, false, false, false, false, false, false, false, false, false, false, false, false] rfl rfl (take_ofW HT_.out HW_.out (by kernel_rfl)) (fun _ _ _ h => h) (Or.inl ⟨by rfl, ?_⟩) hHeld ?_ ?_
    rotate_left
    · rintro w' ⟨s0, s1, s2, s3⟩
      go_simp
      with_reducible rfl
    rotate_left
    · simp only [Act.put, List.setIfInBounds_toArray, List.set_cons_zero, List.set_cons_succ, i64_w, i32_w]
      rfl
    refine pure_ (i := 2) (N := some 16) (v := ?_) (a' := ?_) #[true, true, true, false, false, false, false, false, false, false, false, false, false, false, false, false] rfl rfl (any_of HT_.out (by kernel_rfl)) (fun _ _ _ h => h) (Or.inl ⟨by rfl, ?_⟩) ?_ ?_
    rotate_left
    · intro w'
      go_simp
      with_reducible rfl
    rotate_left
    · simp only [Act.put, List.setIfInBounds_toArray, List.set_cons_zero, List.set_cons_succ, i64_w, i32_w]
      rfl
    refine pure_ (i := 3) (N := some 17) (v := ?_) (a' := ?_) #[true, true, true, true, false, false, false, false, false, false, false, false, false, false, false, false] rfl rfl (any_of HT_.out (by kernel_rfl)) (fun _ _ _ h => h) (Or.inl ⟨by rfl, ?_⟩) ?_ ?_
    rotate_left
    · intro w'
      go_simp
      with_reducible rfl
    rotate_left
    · simp only [Act.put, List.setIfInBounds_toArray, List.set_cons_zero, List.set_cons_succ, i64_w, i32_w]
      rfl
    refine take_ (i := 4) (N := some 18) (v := ?_) (a' := ?_) #[true, true, true, true, true, false, false, false, false, false, false, false, false, false, false, false] rfl rfl (take_ofW HT_.out HW_.out (by kernel_rfl)) (fun _ _ _ h => h) (Or.inl ⟨by rfl, ?_⟩) hHeld ?_ ?_
    rotate_left
    · rintro w' ⟨s0, s1, s2, s3⟩
      go_simp
      with_reducible rfl
    rotate_left
    · simp only [Act.put, List.setIfInBounds_toArray, List.set_cons_zero, List.set_cons_succ, i64_w, i32_w]
      rfl
    refine take_ (i := 5) (N := some 19) (v := ?_) (a' := ?_) #[true, true, true, true, true, true, false, false, false, false, false, false, false, false, false, false] rfl rfl (take_ofW HT_.out HW_.out (by kernel_rfl)) (fun _ _ _ h => h) (Or.inl ⟨by rfl, ?_⟩) hHeld ?_ ?_
    rotate_left
    · rintro w' ⟨s0, s1, s2, s3⟩
      go_simp
      with_reducible rfl
    rotate_left
    · simp only [Act.put, List.setIfInBounds_toArray, List.set_cons_zero, List.set_cons_succ, i64_w, i32_w]
      rfl
    refine take_ (i := 6) (N := some 20) (v := ?_) (a' := ?_) #[true, true, true, true, true, true, true, false, false, false, false, false, false, false, false, false] rfl rfl (take_ofW HT_.out HW_.out (by kernel_rfl)) (fun _ _ _ h => h) (Or.inl ⟨by rfl, ?_⟩) hHeld ?_ ?_
    rotate_left
    · rintro w' ⟨s0, s1, s2, s3⟩
      go_simp
      with_reducible rfl
    rotate_left
    · simp only [Act.put, List.setIfInBounds_toArray, List.set_cons_zero, List.set_cons_succ, i64_w, i32_w]
      rfl
    refine take_ (i := 7) (N := some 21) (v := ?_) (a' := ?_) #[true, true, true, true, true, true, true, true, false, false, false, false, false, false, false, false] rfl rfl (take_ofW HT_.out HW_.out (by kernel_rfl)) (fun _ _ _ h => h) (Or.inl ⟨by rfl, ?_⟩) hHeld ?_ ?_
    rotate_left
    · rintro w' ⟨s0, s1, s2, s3⟩
      go_simp
      with_reducible rfl
    rotate_left
    · simp only [Act.put, List.setIfInBounds_toArray, List.set_cons_zero, List.set_cons_succ, i64_w, i32_w]
      rfl
    refine take_ (i := 8) (N := some 22) (v := ?_) (a' := ?_) #[true, true, true, true, true, true, true, true, true, false, false, false, false, false, false, false] rfl rfl (take_ofW HT_.out HW_.out (by kernel_rfl)) (fun _ _ _ h => h) (Or.inl ⟨by rfl, ?_⟩) hHeld ?_ ?_
    rotate_left
    · rintro w' ⟨s0, s1, s2, s3⟩
      go_simp
      with_reducible rfl
    rotate_left
    · simp only [Act.put, List.setIfInBounds_toArray, List.set_cons_zero, List.set_cons_succ, i64_w, i32_w]
      rfl
    refine take_ (i := 9) (N := some 23) (v := ?_) (a' := ?_) #[true, true, true, true, true, true, true, true, true, true, false, false, false, false, false, false] rfl rfl (take_ofW HT_.out HW_.out (by kernel_rfl)) (fun _ _ _ h => h) (Or.inl ⟨by rfl, ?_⟩) hHeld ?_ ?_
    rotate_left
    · rintro w' ⟨s0, s1, s2, s3⟩
      go_simp
      with_reducible rfl
    rotate_left
    · simp only [Act.put, List.setIfInBounds_toArray, List.set_cons_zero, List.set_cons_succ, i64_w, i32_w]
      rfl
    refine take_ (i := 10) (N := some 24) (v := ?_) (a' := ?_) #[true, true, true, true, true, true, true, true, true, true, true, false, false, false, false, false] rfl rfl (take_ofW HT_.out HW_.out (by kernel_rfl)) (fun _ _ _ h => h) (Or.inl ⟨by rfl, ?_⟩) hHeld ?_ ?_
    rotate_left
    · rintro w' ⟨s0, s1, s2, s3⟩
      go_simp
      with_reducible rfl
    rotate_left
    · simp only [Act.put, List.setIfInBounds_toArray, List.set_cons_zero, List.set_cons_succ, i64_w, i32_w]
      rfl
    refine take_ (i := 11) (N := some 25) (v := ?_) (a' := ?_) #[true, true, true, true, true, true, true, true, true, true, true, true, false, false, false, false] rfl rfl (take_ofW HT_.out HW_.out (by kernel_rfl)) (fun _ _ _ h => h) (Or.inl ⟨by rfl, ?_⟩) hHeld ?_ ?_
    rotate_left
    · rintro w' ⟨s0, s1, s2, s3⟩
      go_simp
      with_reducible rfl
    rotate_left
    · simp only [Act.put, List.setIfInBounds_toArray, List.set_cons_zero, List.set_cons_succ, i64_w, i32_w]
      rfl
    refine take_ (i := 12) (N := some 26) (v := ?_) (a' := ?_) #[true, true, true, true, true, true, true, true, true, true, true, true, true, false, false, false] rfl rfl (take_ofW HT_.out HW_.out (by kernel_rfl)) (fun _ _ _ h => h) (Or.inl ⟨by rfl, ?_⟩) hHeld ?_ ?_
    rotate_left
    · rintro w' ⟨s0, s1, s2, s3⟩
      go_simp
      with_reducible rfl
    rotate_left
    · simp only [Act.put, List.setIfInBounds_toArray, List.set_cons_zero, List.set_cons_succ, i64_w, i32_w]
      rfl
    refine last_ (i := 13) (N := none) #[true, true, true, true, true, true, true, true, true, true, true, true, true, true, false, false] rfl rfl (one_of HT_.out (by kernel_rfl)) (by decide) (fun K hK => ?_)
    refine store_step (by rfl) rfl (w1 := (w1.setCell ⟨g, i * 2, none⟩ (.int .i64 q.f0)).setCell ⟨g, i * 2 + 1, none⟩ (.int .i64 q.f1)) (by go_simp) ?_
    refine hK.out _ _ ?_
    clear hK K
    refine pure_ (i := 14) (N := some 27) (v := ?_) (a' := ?_) #[true, true, true, true, true, true, true, true, true, true, true, true, true, true, true, false] rfl rfl (any_of HT_.out (by kernel_rfl)) (fun _ _ _ h => h) (Or.inl ⟨by rfl, ?_⟩) ?_ ?_
    rotate_left
    · intro w'
      go_simp
      with_reducible rfl
    rotate_left
    · simp only [Act.put, List.setIfInBounds_toArray, List.set_cons_zero, List.set_cons_succ, i64_w, i32_w]
      rfl
    refine last_ (i := 15) (N := none) #[true, true, true, true, true, true, true, true, true, true, true, true, true, true, true, true] rfl rfl (one_of HT_.out (by kernel_rfl)) (by decide) (fun K hK => ?_)
    refine store_step (by rfl) rfl (w1 := (((w1.setCell ⟨g, i * 2, none⟩ (.int .i64 q.f0)).setCell ⟨g, i * 2 + 1, none⟩ (.int .i64 q.f1)).setCell ⟨g, j * 2, none⟩ (.int .i64 p.f0)).setCell ⟨g, j * 2 + 1, none⟩ (.int .i64 p.f1)) (by go_simp) ?_
    refine hK.out _ _ ?_
    clear hK K
    refine done_ (done_of HT_.out (by kernel_rfl)) ?_
    go_wp2
    go_roundw
    case rel =>
     refine ⟨i + 1, j - 1, by omega, by omega, by go_num, by go_num, ⟨?_⟩, HFR⟩
     rw [HSU.out]
     exact R2.out
    case measure => simp [intOf]; omega
  · have hd : decide ((i : Int) < (j : Int)) = false := decide_eq_false (by omega)
    go_wp2
    go_end0
    refine ⟨⟨_, rfl⟩, ?_, HF.out⟩
    rw [← revTo_end xs i hi (by omega)]
    exact HR1.out

end Go.Proofs.Ytkocigldchiifaa.H
