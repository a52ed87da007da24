/- Slices of pairs from any offset on; the queue. -/
import Derived.RangeFuncNested
import Derived.RangeFuncBound
import Derived.RangeFuncCalls
import Derived.RangeFuncLeaves
import Derived.RangeFuncBox
import Derived.RangeFuncWrites
import Derived.Shelf.Abstract
import Derived.Shelf.RegionOpen
import Derived.WalkKit
import Derived.OwnWalkIn
import Derived.TacticsInMore
import Derived.LoopNIn
import Derived.LoopIn
import Derived.Maps.AppendAt
import Derived.Carry
import Derived.WalkSmall
import Derived.Test.YtkocigldchiifaaR0
import Derived.Test.YtkocigldchiifaaH5
namespace Go.Proofs.Ytkocigldchiifaa.H
open Go.RowKit Go.Proofs.YtkocigldchiifaaW.PrintWords Go.Proofs.YtkocigldchiifaaW.PrintLast Go.Proofs.YtkocigldchiifaaW.PrintMore
open Go.Shelf Go.Proofs.Ytkocigldchiifaa.QA
attribute [local go_sem] Oper.semAt_some
set_option linter.unusedVariables false
set_option linter.unusedSimpArgs false


def cellsP (xs : List S25) : List Value := xs.flatMap fun x => [.int .i64 x.f0, .int .i64 x.f1]
/-- A slice of pairs in a row of one's own, from any offset on. -/
def Tail (W : World) (base : Nat) (v : Value) (xs : List S25) : Prop :=
 (v = .slice none 0 0 ∧ xs = []) ∨ ∃ g off cap cur, v = .slice (some ⟨g, off, none⟩) xs.length cap ∧ base ≤ g ∧ W.heap[g]? = some (.cells cur 25 (0, 0)) ∧ xs.length ≤ cap ∧ cap ≤ maxLen ∧ off + cap * 2 ≤ cur.size ∧ (cur.toList.drop off).take (xs.length * 2) = cellsP xs
theorem cellsP_len (xs : List S25) : (cellsP xs).length = xs.length * 2 := by
 induction xs with
 | nil => rfl
 | cons x xs ih => simp [cellsP] at ih ⊢; omega
theorem cellsP_snoc (xs : List S25) (x : S25) : cellsP (xs ++ [x]) = cellsP xs ++ [Value.int .i64 x.f0, Value.int .i64 x.f1] := by simp [cellsP]
theorem cellsP_cons (xs : List S25) (x : S25) : cellsP (x :: xs) = Value.int .i64 x.f0 :: Value.int .i64 x.f1 :: cellsP xs := by simp [cellsP]
/-- But one block and one row nothing that was there has turned. -/
structure Fr (w w' : World) (gq : Nat) (r : Option Nat) : Prop where
 os : w'.os = w.os
 tape : w'.tape = w.tape
 output : w'.output = w.output
 size : w.heap.size ≤ w'.heap.size
 but : ∀ g, g < w.heap.size → g ≠ gq → some g ≠ r → w'.heap[g]? = w.heap[g]?
theorem Tail.lt {W : World} {base : Nat} {v : Value} {xs : List S25} (h : Tail W base v xs) (j : Nat) (hj : v.ownBlock = some j) : base ≤ j ∧ j < W.heap.size ∧ ∃ cur, W.heap[j]? = some (.cells cur 25 (0, 0)) := by
 rcases h with ⟨rfl, _⟩ | ⟨g, off, cap, cur, rfl, h1, h2, _⟩
 · simp [Value.ownBlock] at hj
 · obtain rfl : g = j := by simpa [Value.ownBlock] using hj
   exact ⟨h1, blk_lt2 h2, cur, h2⟩
theorem Tail.kept {W W' : World} {base : Nat} {v : Value} {xs : List S25} (h : Tail W base v xs) (hk : ∀ (j : Nat) (cur : Array Value), v.ownBlock = some j → W.heap[j]? = some (.cells cur 25 (0, 0)) → W'.heap[j]? = some (.cells cur 25 (0, 0))) : Tail W' base v xs := by
 rcases h with h | ⟨g, off, cap, cur, rfl, h1, h2, h3⟩
 · exact .inl h
 · exact .inr ⟨g, off, cap, cur, rfl, h1, hk g cur rfl h2, h3⟩
theorem Tail.below {W W' : World} {base : Nat} {v : Value} {xs : List S25} (h : Tail W base v xs) (hb : Below W.heap.size W W') : Tail W' base v xs := h.kept fun _ _ _ hj => blk_below2 hb hj
theorem Tail.ne {W : World} {base : Nat} {v : Value} {xs : List S25} (h : Tail W base v xs) {j : Nat} {o : Obj} (hj : W.heap[j]? = some o) (ho : ∀ cur, o ≠ .cells cur 25 (0, 0)) : some j ≠ v.ownBlock := fun e => by
 obtain ⟨_, _, cur, h2⟩ := h.lt j e.symm
 rw [hj] at h2
 exact ho cur (Option.some.inj h2)
theorem Tail.cells {W : World} {base : Nat} {g off cap : Nat} {xs : List S25} {n : Nat} (h : Tail W base (.slice (some ⟨g, off, none⟩) n cap) xs) : n = xs.length ∧ ∀ j u, (cellsP xs)[j]? = some u → W.cell? ⟨g, off + j, none⟩ = some u := by
 rcases h with ⟨h1, _⟩ | ⟨g', off', cap', cur, h1, h2, h3, h4, h5, h6, h7⟩
 · cases h1
 · cases h1
   refine ⟨rfl, fun j u hj => ?_⟩
   have hlt := (List.getElem?_eq_some_iff.1 hj).1
   rw [cellsP_len] at hlt
   rw [← h7, List.getElem?_take_of_lt hlt, List.getElem?_drop, Array.getElem?_toList] at hj
   unfold World.cell?
   simp only [h3]
   exact hj
theorem add_off (g off j : Nat) : ((⟨g, off, none⟩ : Addr).add j) = ⟨g, off + j, none⟩ := by unfold Addr.add; split <;> simp_all
/-- ONE PAIR MORE. -/
theorem run_append_tail (w : World) (base : Nat) (v : Value) (xs : List S25) (x : S25) (a : Addr) (c : Nat) (ht : Tail w base v xs) (hb : base ≤ w.heap.size) (hl : xs.length < 100000)
  (hnews : ∀ j u, [Value.int .i64 x.f0, Value.int .i64 x.f1][j]? = some u → w.cell? (a.add j) = some u) :
  ∃ v' w', (Builtin.append_ #[38, 38] 38 #[v, .slice (some a) 1 c]).run Try.prog w = .ok v' w' ∧ Tail w' base v' (xs ++ [x]) ∧ w.grownBy w' v.ownBlock ∧ (v'.ownBlock = v.ownBlock ∨ v'.ownBlock = some w.heap.size) := by
 obtain ⟨i, hi, hz, hs, hby⟩ := info_parts info25
 have hnl : [Value.int .i64 x.f0, Value.int .i64 x.f1].length = 1 * i.size := by rw [hs]; rfl
 have hol : (cellsP xs).length = xs.length * i.size := by rw [hs]; exact cellsP_len xs
 rcases ht with ⟨rfl, rfl⟩ | ⟨g, off, cap, cur, rfl, h1, h2, h3, h4, h5, h6⟩
 · have hr := run_append_nil (P := Try.prog) w 38 38 25 i _ Try.underlying38 hi hz a 1 c _ hnl hnews (by omega) (by omega) (by rw [hby]; omega)
   refine ⟨_, _, hr, ?_, ⟨rfl, rfl, rfl, by simp, fun k hk _ => heap_alloc_old w.drew _ k hk⟩, .inr rfl⟩
   have hge := grownCap_ge w 1 0 25
   have hcm : grownCap w 1 0 25 ≤ maxLen := grownCap_le_maxLen w 1 0 25 (by simp [maxLen])
   refine .inr ⟨w.heap.size, 0, _, _, rfl, hb, heap_alloc_new w.drew _, hge, hcm, ?_, ?_⟩
   · simp only [Array.size_append, List.size_toArray, size_zeroCells, List.length_cons, List.length_nil]
     have : (Value.agg #[Value.int .i64 0, Value.int .i64 0]).cells.size = 2 := rfl
     rw [this]
     omega
   · simp [cellsP]
 · by_cases hroom : xs.length + 1 ≤ cap
   · have hst := run_storeCells_at Try.prog g (off + xs.length * i.size) 25 [Value.int .i64 x.f0, Value.int .i64 x.f1] 0 cur w h2 (by rw [hs]; simp; omega) (by simp [Value.oneCell'])
     simp only [Nat.add_zero] at hst
     have hf := run_firstCells_some (P := Try.prog) w i.size 1 a 1 c _ hnl hnews
     have hr : (Builtin.append_ #[38, 38] 38 #[.slice (some ⟨g, off, none⟩) xs.length cap, .slice (some a) 1 c]).run Try.prog w = .ok (.slice (some ⟨g, off, none⟩) (xs.length + 1) cap) (w.setRow g (cur.toList.take (off + xs.length * i.size) ++ [Value.int .i64 x.f0, Value.int .i64 x.f1] ++ cur.toList.drop (off + xs.length * i.size + 2)).toArray) := by
      simp [Builtin.append_, run_underlying Try.underlying38, sizeOf, typeInfo, hi, Builtin.lenOf, hroom, hf, Addr.add_lit, hst]
     refine ⟨_, _, hr, .inr ⟨g, off, cap, _, by simp, h1, setRow_heap w g cur _ 25 _ h2, by simp; omega, h4, ?_, ?_⟩, ⟨rfl, rfl, rfl, by simp, fun k _ hk => setRow_other w g k _ (fun e => hk (by simp [Value.ownBlock, e]))⟩, .inl rfl⟩
     · rw [hs]
       simp only [List.size_toArray, List.length_append, List.length_take, List.length_drop, Array.length_toList, List.length_cons, List.length_nil]
       omega
     · rw [hs, cellsP_snoc]
       have hlen : off + xs.length * 2 ≤ cur.toList.length := by simp; omega
       have e1 : (cur.toList.take (off + xs.length * 2)).drop off = cellsP xs := by
        rw [List.drop_take, Nat.add_sub_cancel_left]
        exact h6
       have e2 : (cur.toList.take (off + xs.length * 2)).length = off + xs.length * 2 := by rw [List.length_take]; omega
       simp only [List.append_assoc]
       rw [List.drop_append_of_le_length (by omega), e1, List.length_append, List.length_singleton, ← List.append_assoc]
       have e3 : (cellsP xs ++ [Value.int .i64 x.f0, Value.int .i64 x.f1]).length = (xs.length + 1) * 2 := by rw [List.length_append, cellsP_len]; simp; omega
       rw [← e3]
       exact List.take_left
   · have holds : ∀ j u, (cellsP xs)[j]? = some u → w.cell? ((⟨g, off, none⟩ : Addr).add j) = some u := fun j u hj => by
      rw [add_off]
      exact (Tail.cells (W := w) (base := base) (.inr ⟨g, off, cap, cur, rfl, h1, h2, h3, h4, h5, h6⟩)).2 j u hj
     have hr := run_append_grow (P := Try.prog) w 38 38 25 i _ Try.underlying38 hi hz ⟨g, off, none⟩ xs.length cap (cellsP xs) hol holds a 1 c _ hnl hnews (by omega) (by omega) (growslice_fits (by omega) (by rw [hby]; omega))
     have hge := grownCap_ge w (xs.length + 1) cap 25
     have hcm : grownCap w (xs.length + 1) cap 25 ≤ maxLen := grownCap_le_maxLen w _ cap 25 (by simp only [maxLen]; omega)
     refine ⟨_, _, hr, .inr ⟨w.heap.size, 0, _, _, by simp, hb, heap_alloc_new w.drew _, by simp; omega, hcm, ?_, ?_⟩, ⟨rfl, rfl, rfl, by simp, fun k hk _ => heap_alloc_old w.drew _ k hk⟩, .inr rfl⟩
     · simp only [Array.size_append, List.size_toArray, size_zeroCells, List.length_cons, List.length_nil, cellsP_len]
       have : (Value.agg #[Value.int .i64 0, Value.int .i64 0]).cells.size = 2 := rfl
       rw [this]
       omega
     · rw [cellsP_snoc]
       have e3 : (cellsP xs ++ [Value.int .i64 x.f0, Value.int .i64 x.f1]).length = (xs ++ [x]).length * 2 := by rw [List.length_append, cellsP_len]; simp; omega
       rw [← e3]
       simp only [Array.toList_append, List.drop_zero]
       exact List.take_left

end Go.Proofs.Ytkocigldchiifaa.H
