/- The moves from a pair: an iterator. -/
import Derived.RangeFuncNested
import Derived.RangeFuncBound
import Derived.RangeFuncCalls
import Derived.RangeFuncLeaves
import Derived.RangeFuncBox
import Derived.RangeFuncWrites
import Derived.Shelf.Abstract
import Derived.Shelf.RegionOpen
import Derived.WalkKit
import Derived.OwnWalkIn
import Derived.TacticsInMore
import Derived.LoopNIn
import Derived.LoopIn
import Derived.Maps.AppendAt
import Derived.Test.YtkocigldchiifaaH3
namespace Go.Proofs.Ytkocigldchiifaa.H
open Go.RowKit Go.Proofs.YtkocigldchiifaaW.PrintWords Go.Proofs.YtkocigldchiifaaW.PrintLast Go.Proofs.YtkocigldchiifaaW.PrintMore
open Go.Shelf Go.Proofs.Ytkocigldchiifaa.QA
attribute [local go_sem] Oper.semAt_some
set_option linter.unusedVariables false
set_option linter.unusedSimpArgs false


def cand (i k : Int) : List S25 := [⟨i + 1, k + 1⟩, ⟨i + 1, k⟩, ⟨i, k + 1⟩]
def movesTo (a b : List S59) (i k : Int) (n : Nat) : List S25 := ((cand i k).take n).filter fun q => hasP a b q.f0 q.f1
/-- The moves from a pair. -/
def movesOf (a b : List S59) (i k : Int) : List S25 := movesTo a b i k 3
theorem moves_len (a b : List S59) (i k : Int) (n : Nat) : (movesTo a b i k n).length ≤ n ∧ (movesTo a b i k n).length ≤ 3 := by
 unfold movesTo
 have h1 := List.length_filter_le (fun q : S25 => hasP a b q.f0 q.f1) ((cand i k).take n)
 have h2 : ((cand i k).take n).length ≤ n := List.length_take_le _ _
 have h3 : ((cand i k).take n).length ≤ 3 := by rw [List.length_take]; exact Nat.min_le_right _ _
 omega
theorem moves_pre (a b : List S59) (i k : Int) (n : Nat) (h : n ≤ 3) : movesTo a b i k n <+: movesOf a b i k := by
 unfold movesOf movesTo
 refine List.IsPrefix.filter _ ?_
 exact List.take_prefix_take_left h
/-- What a cell's slice lies in. -/
def ptrAt (W : World) (B : Nat) : Option Nat := match W.cell? ⟨B, 0, none⟩ with | some v => v.ownBlock | none => none
/-- What the body of a loop over moves keeps. -/
structure KpM (n₀ Bt B : Nat) (W W' : World) : Prop where
 below : Below n₀ W W'
 tb : ∀ (cs : Array Value) (t : TypeId) (fz : Nat × Nat), W.heap[Bt]? = some (Obj.cells cs t fz) → W'.heap[Bt]? = some (Obj.cells cs t fz)
 rows : ∀ (g : Nat) (cs : Array Value), W.heap[g]? = some (Obj.cells cs 25 (0, 0)) → ptrAt W B ≠ some g → W'.heap[g]? = some (Obj.cells cs 25 (0, 0))
 ptr : ∀ g, ptrAt W' B = some g → ptrAt W B = some g ∨ W.heap.size ≤ g
theorem KpM.trans' {n₀ Bt B : Nat} {X Y Z : World} (h : KpM n₀ Bt B X Y) (k : KpM n₀ Bt B Y Z) : KpM n₀ Bt B X Z :=
 ⟨h.below.trans k.below, fun cs t fz hg => k.tb cs t fz (h.tb cs t fz hg), fun g cs hg hp => k.rows g cs (h.rows g cs hg hp) (fun e => by
   rcases h.ptr g e with h1 | h1
   · exact hp h1
   · have := blk_lt hg; omega), fun g e => by
   rcases k.ptr g e with h1 | h1
   · exact h.ptr g h1
   · exact .inr (Nat.le_trans h.below.size h1)⟩
theorem KpM.putObj {n₀ Bt B : Nat} {w : World} (hn : n₀ ≤ w.heap.size) (hB : B < w.heap.size) (W : World) (l : Nat) (o o' : Obj) (hl : w.heap.size ≤ l) (h : W.heap[l]? = some o) (hc : o.isCells = false) (hw : o.isWalk = false) : KpM n₀ Bt B W (W.putObj l o') := by
 have hfar : ∀ (g : Nat) (cs : Array Value) (t : TypeId) (fz : Nat × Nat), W.heap[g]? = some (Obj.cells cs t fz) → (W.putObj l o').heap[g]? = some (Obj.cells cs t fz) := fun g cs t fz hg => by
  rw [World.putObj_heap_other (fun e => by subst e; rw [h] at hg; cases hg; cases hc)]; exact hg
 have hp : ptrAt (W.putObj l o') B = ptrAt W B := by
  unfold ptrAt World.cell?
  simp only
  rw [World.putObj_heap_other (by omega)]
 exact ⟨belowK_b (w := w) hn W l o o' hl h hc hw, fun cs t fz hg => hfar _ cs t fz hg, fun g cs hg _ => hfar g cs 25 (0, 0) hg, fun g e => .inl (hp ▸ e)⟩
theorem ptr_below {W W' : World} {B : Nat} (hb : Below W.heap.size W W') (hB : B < W.heap.size) : ptrAt W' B = ptrAt W B := by
 unfold ptrAt
 rw [hb.cell (p := ⟨B, 0, none⟩) hB]

theorem moves_step0 {n₀ Bt B l : Nat} {cs ct : Array Value} {tt : TypeId} {W wr w2 : World} (h0 : Below n₀ W wr) (hb : Below wr.heap.size wr w2) (hB : B < wr.heap.size ∧ n₀ ≤ wr.heap.size) (hp : ptrAt wr B ≠ some l) (h1 : wr.heap[l]? = some (.cells cs 25 (0, 0))) (h2 : wr.heap[Bt]? = some (.cells ct tt (0, 0))) :
  w2.heap[l]? = some (.cells cs 25 (0, 0)) ∧ w2.heap[Bt]? = some (.cells ct tt (0, 0)) ∧ Below n₀ W w2 ∧ ptrAt w2 B ≠ some l :=
 ⟨blk_below h1 hb, blk_below h2 hb, h0.trans (hb.mono hB.2), by rw [ptr_below hb hB.1]; exact hp⟩
theorem moves_step {n₀ Bt B l : Nat} {cs ct : Array Value} {tt : TypeId} {W wr w2 W3 : World} (h0 : Below n₀ W wr) (hb : Below wr.heap.size wr w2) (hk : KpM n₀ Bt B w2 W3) (hB : B < wr.heap.size ∧ n₀ ≤ wr.heap.size) (hp : ptrAt wr B ≠ some l) (h1 : wr.heap[l]? = some (.cells cs 25 (0, 0))) (h2 : wr.heap[Bt]? = some (.cells ct tt (0, 0))) :
  W3.heap[l]? = some (.cells cs 25 (0, 0)) ∧ W3.heap[Bt]? = some (.cells ct tt (0, 0)) ∧ Below n₀ W W3 ∧ ptrAt W3 B ≠ some l := by
 obtain ⟨k1, k2, k3, k4⟩ := moves_step0 h0 hb hB hp h1 h2
 refine ⟨hk.rows _ _ k1 k4, hk.tb _ _ _ k2, k3.trans hk.below, fun e => ?_⟩
 rcases hk.ptr _ e with h | h
 · exact k4 h
 · have := blk_lt k1; omega

set_option maxRecDepth 100000 in
/-- (*table).moves: its arguments are boxed, the function value captures the boxes. -/
theorem moves_in (n : Nat) (g : Nat) (i k : Int) (w : World) :
    CallsIn Fence.wide n Try.prog 52 #[.pointer (some ⟨g, 0, none⟩), .agg #[.int .i64 i, .int .i64 k]] w fun e w' =>
      e = .returned (.func (.func 72) #[] #[.pointer (some ⟨w.heap.size + 1, 0, none⟩), .pointer (some ⟨w.heap.size, 0, none⟩)]) ∧
      w' = (w.alloc (.cells #[.pointer (some ⟨g, 0, none⟩)] 80)).alloc (.cells #[.int .i64 i, .int .i64 k] 25) := by
  have hu25 := Try.underlying25
  refine callsIn_of_wp Try.func52 rfl trivial ?_ rfl
  simp only [Try.ntmps52, List.size_toArray, List.length_cons, List.length_nil, Nat.reduceAdd, Nat.reduceSub, Array.replicate_succ, Array.replicate_zero, List.push_toArray, List.append_toArray, List.nil_append, List.cons_append]
  gi_wp2
  go_ret
  exact ⟨rfl, rfl⟩

set_option maxHeartbeats 4000000 in
set_option maxRecDepth 100000 in
/-- (*table).moves$1 -/
theorem moves1_in (n : Nat) (hn : 1 ≤ n) (lp Bp Bt B g n₀ : Nat) (a b : List S59) (i k : Int) (J Jx : List S25 → World → Prop)
    (hY : ∀ pre x W, pre ++ [x] <+: movesOf a b i k → J pre W → pre.length < 3 → YieldAt Fence.wide (n - 1) Try.prog lp #[.agg #[.int .i64 x.f0, .int .i64 x.f1]] W fun e W' =>
      (e = .returned (.bool true) ∧ J (pre ++ [x]) W' ∧ KpM n₀ Bt B W W') ∨ (e = .returned (.bool false) ∧ Jx (pre ++ [x]) W'))
    (W : World) (hJ : AbidesFrom W.heap.size J)
    (hp0 : W.cell? ⟨Bp, 0, none⟩ = some (.int .i64 i)) (hp1 : W.cell? ⟨Bp, 1, none⟩ = some (.int .i64 k)) (htb : W.heap[Bt]? = some (.cells #[.pointer (some ⟨g, 0, none⟩)] 80 (0, 0)))
    (hT : ∀ W', Below n₀ W W' → Tb W' g a b) (hn0 : n₀ ≤ W.heap.size) (hB : B < W.heap.size) (hptr : ptrAt W B = none) (hi : 0 ≤ i ∧ i ≤ 1000) (hk : 0 ≤ k ∧ k ≤ 1000) (h0 : J [] W) :
    CallsIn Fence.wide n Try.prog 72 #[.func (.yield lp) #[] #[], .pointer (some ⟨Bp, 0, none⟩), .pointer (some ⟨Bt, 0, none⟩)] W fun e W' => (∃ v, e = .returned v) ∧
      ((∃ ys, ys = movesOf a b i k ∧ J ys W') ∨ (∃ pre, pre <+: movesOf a b i k ∧ Jx pre W')) := by
  have HY := Aside0.mk hY
  have HJ := Aside0.mk hJ
  have HT := Aside0.mk hT
  have HTB := Aside0.mk htb
  have HP := Aside0.mk (And.intro hB (And.intro hptr hn0))
  have HJ0 := Aside0.mk h0
  have hu25 := Try.underlying25
  clear hY hJ hT htb hB hptr hn0 h0
  refine callsIn_of_wp Try.func72 rfl trivial ?_ rfl
  simp only [Try.ntmps72, List.size_toArray, List.length_cons, List.length_nil, Nat.reduceAdd, Nat.reduceSub, Array.replicate_succ, Array.replicate_zero, List.push_toArray, List.append_toArray, List.nil_append, List.cons_append]
  gi_wp2
  have BL := Aside0.mk (blk_new W (.cells #[.int .i64 (i + 1), .int .i64 (k + 1), .int .i64 (i + 1), .int .i64 k, .int .i64 i, .int .i64 (k + 1)] 25))
  have hbb := below_alloc (Below.refl W.heap.size W) (.cells #[.int .i64 (i + 1), .int .i64 (k + 1), .int .i64 (i + 1), .int .i64 k, .int .i64 i, .int .i64 (k + 1)] 25)
  have HJ1 := Aside0.mk (HJ.out _ _ _ none HJ0.out (grown_of_below hbb none) (fun r e => by cases e))
  have HT1 := Aside0.mk (blk_below HTB.out hbb)
  have HPP := Aside0.mk (show ptrAt (W.alloc (.cells #[.int .i64 (i + 1), .int .i64 (k + 1), .int .i64 (i + 1), .int .i64 k, .int .i64 i, .int .i64 (k + 1)] 25)) B ≠ some W.heap.size by rw [ptr_below hbb HP.out.1, HP.out.2.1]; simp)
  have HBB := Aside0.mk (hbb.mono HP.out.2.2)
  clear hbb
  gi_loopw [27] (fun s27 wr => ∃ m : Nat, m ≤ 3 ∧ s27 = .int .i64 m ∧ Aside0 (J (movesTo a b i k m) wr) ∧ Aside0 (wr.heap[W.heap.size]? = some (.cells #[.int .i64 (i + 1), .int .i64 (k + 1), .int .i64 (i + 1), .int .i64 k, .int .i64 i, .int .i64 (k + 1)] 25 (0, 0))) ∧ Aside0 (wr.heap[Bt]? = some (.cells #[.pointer (some ⟨g, 0, none⟩)] 80 (0, 0))) ∧ Aside0 (Below n₀ W wr) ∧ Aside0 (ptrAt wr B ≠ some W.heap.size)) (fun s27 _ => 3 - (intOf s27).toNat)
  case atStart => exact ⟨0, by omega, rfl, HJ1, BL, HT1, HBB, HPP⟩
  case round =>
    clear HJ1 BL HT1 HBB HPP
    obtain ⟨m, hm, rfl, HJ1, BL, HT1, HBB, HPP⟩ := hrel
    have hz := HBB.out.size
    have hltB := blk_lt BL.out
    have hltT := blk_lt HT1.out
    have hltb : B < wr.heap.size ∧ n₀ ≤ wr.heap.size := ⟨by have := HP.out.1; omega, by have := HP.out.2.2; omega⟩
    have hg : Tb wr g a b := HT.out _ (HBB.out)
    have HG := Aside0.mk hg
    clear hg
    by_cases hm0 : m = 0
    · subst hm0
      have hc0 : wr.cell? ⟨W.heap.size, 0, none⟩ = some (.int .i64 (i + 1)) := (blk_cell BL.out 0).trans rfl
      have hc1 : wr.cell? ⟨W.heap.size, 1, none⟩ = some (.int .i64 (k + 1)) := (blk_cell BL.out 1).trans rfl
      have hct : wr.cell? ⟨Bt, 0, none⟩ = some (.pointer (some ⟨g, 0, none⟩)) := (blk_cell HT1.out 0).trans rfl
      have hs : movesTo a b i k 1 = movesTo a b i k 0 ++ (if hasP a b (i + 1) (k + 1) = true then [⟨i + 1, k + 1⟩] else []) := by
        simp only [movesTo, cand]
        simp [List.filter_cons]
      have hl := (moves_len a b i k 0).1
      have HS := Aside0.mk hs
      have HL := Aside0.mk hl
      clear hs hl
      have hcall := fun X => has_calls g a b (i + 1) (k + 1) (wr.alloc (.cells #[.int .i64 (i + 1), .int .i64 (k + 1)] 25)) X
      replace hcall := hcall (HG.out.below (below_alloc (Below.refl _ _) _))
      generalize hq : hasP a b (i + 1) (k + 1) = q at hcall
      have HC := Aside0.mk hcall
      have HQ := Aside0.mk hq
      clear hcall hq
      cases q with
      | true =>
        gi_wp2_with (refine ⟨trivial, ?_⟩; gi_at_call 46; refine (callsIn_wide.2 HC.out).mono ?_; rintro e w2 ⟨rfl, hb2⟩; have HB2 := Aside0.mk hb2; have h60 := pw_cell_below hb2 (a := ⟨wr.heap.size, 0, none⟩) (v := .int .i64 (i + 1)) (by simp); have h61 := pw_cell_below hb2 (a := ⟨wr.heap.size, 1, none⟩) (v := .int .i64 (k + 1)) (by simp); clear hb2; obtain ⟨fn, tmps, assign, body, hy, hR⟩ := HY.out (movesTo a b i k 0) ⟨i + 1, k + 1⟩ w2 (by have hm := moves_pre a b i k 1 (by omega); rw [HS.out, if_pos HQ.out] at hm; exact hm) (HJ.out _ _ _ none (HJ.out _ _ _ none HJ1.out (World.grownBy_alloc _ _ none) (fun r e => by cases e)) (grown_of_below HB2.out none) (fun r e => by cases e)) (by have := HL.out; omega))
        refine hR.mono ?_
        rintro e W3 (⟨rfl, hJ3, hk3⟩ | ⟨rfl, hJx3⟩)
        · obtain ⟨k1, k2, k3, k4⟩ := moves_step HBB.out (below_then (below_alloc (Below.refl _ _) _) (by simp) HB2.out) hk3 hltb HPP.out BL.out HT1.out
          gi_wp2
          go_roundw
          case rel =>
            refine ⟨1, by omega, by go_num, ⟨?_⟩, ⟨k1⟩, ⟨k2⟩, ⟨k3⟩, ⟨k4⟩⟩
            rw [HS.out, if_pos HQ.out]
            exact hJ3
          case measure => simp [intOf]
        · gi_wp2
          refine bodyPost_ret (results_none rfl _ _ _) rfl ?_
          refine ⟨⟨_, rfl⟩, .inr ⟨_, ?_, hJx3⟩⟩
          have hm := moves_pre a b i k 1 (by omega)
          rw [HS.out, if_pos HQ.out] at hm
          exact hm
      | false =>
        gi_wp2_with (refine ⟨trivial, ?_⟩; gi_at_call 46; refine (callsIn_wide.2 HC.out).mono ?_; rintro e w2 ⟨rfl, hb2⟩; have HB2 := Aside0.mk hb2; clear hb2)
        refine ⟨fun _ h => (by cases h), ?_⟩
        gi_wp2
        go_roundw
        case rel =>
          obtain ⟨k1, k2, k3, k4⟩ := moves_step0 HBB.out (below_then (below_alloc (Below.refl _ _) _) (by simp) HB2.out) hltb HPP.out BL.out HT1.out
          refine ⟨1, by omega, by go_num, ⟨?_⟩, ⟨k1⟩, ⟨k2⟩, ⟨k3⟩, ⟨k4⟩⟩
          rw [HS.out, if_neg (by rw [HQ.out]; decide), List.append_nil]
          exact HJ.out _ _ _ none (HJ.out _ _ _ none HJ1.out (World.grownBy_alloc _ _ none) (fun r e => by cases e)) (grown_of_below HB2.out none) (fun r e => by cases e)
        case measure => simp [intOf]
    by_cases hm1 : m = 1
    · subst hm1
      have hc0 : wr.cell? ⟨W.heap.size, 2, none⟩ = some (.int .i64 (i + 1)) := (blk_cell BL.out 2).trans rfl
      have hc1 : wr.cell? ⟨W.heap.size, 3, none⟩ = some (.int .i64 (k)) := (blk_cell BL.out 3).trans rfl
      have hct : wr.cell? ⟨Bt, 0, none⟩ = some (.pointer (some ⟨g, 0, none⟩)) := (blk_cell HT1.out 0).trans rfl
      have hs : movesTo a b i k 2 = movesTo a b i k 1 ++ (if hasP a b (i + 1) (k) = true then [⟨i + 1, k⟩] else []) := by
        simp only [movesTo, cand]
        simp [List.filter_cons]; split <;> simp
      have hl := (moves_len a b i k 1).1
      have HS := Aside0.mk hs
      have HL := Aside0.mk hl
      clear hs hl
      have hcall := fun X => has_calls g a b (i + 1) (k) (wr.alloc (.cells #[.int .i64 (i + 1), .int .i64 (k)] 25)) X
      replace hcall := hcall (HG.out.below (below_alloc (Below.refl _ _) _))
      generalize hq : hasP a b (i + 1) (k) = q at hcall
      have HC := Aside0.mk hcall
      have HQ := Aside0.mk hq
      clear hcall hq
      cases q with
      | true =>
        gi_wp2_with (refine ⟨trivial, ?_⟩; gi_at_call 46; refine (callsIn_wide.2 HC.out).mono ?_; rintro e w2 ⟨rfl, hb2⟩; have HB2 := Aside0.mk hb2; have h60 := pw_cell_below hb2 (a := ⟨wr.heap.size, 0, none⟩) (v := .int .i64 (i + 1)) (by simp); have h61 := pw_cell_below hb2 (a := ⟨wr.heap.size, 1, none⟩) (v := .int .i64 (k)) (by simp); clear hb2; obtain ⟨fn, tmps, assign, body, hy, hR⟩ := HY.out (movesTo a b i k 1) ⟨i + 1, k⟩ w2 (by have hm := moves_pre a b i k 2 (by omega); rw [HS.out, if_pos HQ.out] at hm; exact hm) (HJ.out _ _ _ none (HJ.out _ _ _ none HJ1.out (World.grownBy_alloc _ _ none) (fun r e => by cases e)) (grown_of_below HB2.out none) (fun r e => by cases e)) (by have := HL.out; omega))
        refine hR.mono ?_
        rintro e W3 (⟨rfl, hJ3, hk3⟩ | ⟨rfl, hJx3⟩)
        · obtain ⟨k1, k2, k3, k4⟩ := moves_step HBB.out (below_then (below_alloc (Below.refl _ _) _) (by simp) HB2.out) hk3 hltb HPP.out BL.out HT1.out
          gi_wp2
          go_roundw
          case rel =>
            refine ⟨2, by omega, by go_num, ⟨?_⟩, ⟨k1⟩, ⟨k2⟩, ⟨k3⟩, ⟨k4⟩⟩
            rw [HS.out, if_pos HQ.out]
            exact hJ3
          case measure => simp [intOf]
        · gi_wp2
          refine bodyPost_ret (results_none rfl _ _ _) rfl ?_
          refine ⟨⟨_, rfl⟩, .inr ⟨_, ?_, hJx3⟩⟩
          have hm := moves_pre a b i k 2 (by omega)
          rw [HS.out, if_pos HQ.out] at hm
          exact hm
      | false =>
        gi_wp2_with (refine ⟨trivial, ?_⟩; gi_at_call 46; refine (callsIn_wide.2 HC.out).mono ?_; rintro e w2 ⟨rfl, hb2⟩; have HB2 := Aside0.mk hb2; clear hb2)
        refine ⟨fun _ h => (by cases h), ?_⟩
        gi_wp2
        go_roundw
        case rel =>
          obtain ⟨k1, k2, k3, k4⟩ := moves_step0 HBB.out (below_then (below_alloc (Below.refl _ _) _) (by simp) HB2.out) hltb HPP.out BL.out HT1.out
          refine ⟨2, by omega, by go_num, ⟨?_⟩, ⟨k1⟩, ⟨k2⟩, ⟨k3⟩, ⟨k4⟩⟩
          rw [HS.out, if_neg (by rw [HQ.out]; decide), List.append_nil]
          exact HJ.out _ _ _ none (HJ.out _ _ _ none HJ1.out (World.grownBy_alloc _ _ none) (fun r e => by cases e)) (grown_of_below HB2.out none) (fun r e => by cases e)
        case measure => simp [intOf]
    by_cases hm2 : m = 2
    · subst hm2
      have hc0 : wr.cell? ⟨W.heap.size, 4, none⟩ = some (.int .i64 (i)) := (blk_cell BL.out 4).trans rfl
      have hc1 : wr.cell? ⟨W.heap.size, 5, none⟩ = some (.int .i64 (k + 1)) := (blk_cell BL.out 5).trans rfl
      have hct : wr.cell? ⟨Bt, 0, none⟩ = some (.pointer (some ⟨g, 0, none⟩)) := (blk_cell HT1.out 0).trans rfl
      have hs : movesTo a b i k 3 = movesTo a b i k 2 ++ (if hasP a b (i) (k + 1) = true then [⟨i, k + 1⟩] else []) := by
        simp only [movesTo, cand]
        simp [List.filter_cons]; split <;> split <;> simp
      have hl := (moves_len a b i k 2).1
      have HS := Aside0.mk hs
      have HL := Aside0.mk hl
      clear hs hl
      have hcall := fun X => has_calls g a b (i) (k + 1) (wr.alloc (.cells #[.int .i64 (i), .int .i64 (k + 1)] 25)) X
      replace hcall := hcall (HG.out.below (below_alloc (Below.refl _ _) _))
      generalize hq : hasP a b (i) (k + 1) = q at hcall
      have HC := Aside0.mk hcall
      have HQ := Aside0.mk hq
      clear hcall hq
      cases q with
      | true =>
        gi_wp2_with (refine ⟨trivial, ?_⟩; gi_at_call 46; refine (callsIn_wide.2 HC.out).mono ?_; rintro e w2 ⟨rfl, hb2⟩; have HB2 := Aside0.mk hb2; have h60 := pw_cell_below hb2 (a := ⟨wr.heap.size, 0, none⟩) (v := .int .i64 (i)) (by simp); have h61 := pw_cell_below hb2 (a := ⟨wr.heap.size, 1, none⟩) (v := .int .i64 (k + 1)) (by simp); clear hb2; obtain ⟨fn, tmps, assign, body, hy, hR⟩ := HY.out (movesTo a b i k 2) ⟨i, k + 1⟩ w2 (by have hm := moves_pre a b i k 3 (by omega); rw [HS.out, if_pos HQ.out] at hm; exact hm) (HJ.out _ _ _ none (HJ.out _ _ _ none HJ1.out (World.grownBy_alloc _ _ none) (fun r e => by cases e)) (grown_of_below HB2.out none) (fun r e => by cases e)) (by have := HL.out; omega))
        refine hR.mono ?_
        rintro e W3 (⟨rfl, hJ3, hk3⟩ | ⟨rfl, hJx3⟩)
        · obtain ⟨k1, k2, k3, k4⟩ := moves_step HBB.out (below_then (below_alloc (Below.refl _ _) _) (by simp) HB2.out) hk3 hltb HPP.out BL.out HT1.out
          gi_wp2
          go_roundw
          case rel =>
            refine ⟨3, by omega, by go_num, ⟨?_⟩, ⟨k1⟩, ⟨k2⟩, ⟨k3⟩, ⟨k4⟩⟩
            rw [HS.out, if_pos HQ.out]
            exact hJ3
          case measure => simp [intOf]
        · gi_wp2
          refine bodyPost_ret (results_none rfl _ _ _) rfl ?_
          refine ⟨⟨_, rfl⟩, .inr ⟨_, ?_, hJx3⟩⟩
          have hm := moves_pre a b i k 3 (by omega)
          rw [HS.out, if_pos HQ.out] at hm
          exact hm
      | false =>
        gi_wp2_with (refine ⟨trivial, ?_⟩; gi_at_call 46; refine (callsIn_wide.2 HC.out).mono ?_; rintro e w2 ⟨rfl, hb2⟩; have HB2 := Aside0.mk hb2; clear hb2)
        refine ⟨fun _ h => (by cases h), ?_⟩
        gi_wp2
        go_roundw
        case rel =>
          obtain ⟨k1, k2, k3, k4⟩ := moves_step0 HBB.out (below_then (below_alloc (Below.refl _ _) _) (by simp) HB2.out) hltb HPP.out BL.out HT1.out
          refine ⟨3, by omega, by go_num, ⟨?_⟩, ⟨k1⟩, ⟨k2⟩, ⟨k3⟩, ⟨k4⟩⟩
          rw [HS.out, if_neg (by rw [HQ.out]; decide), List.append_nil]
          exact HJ.out _ _ _ none (HJ.out _ _ _ none HJ1.out (World.grownBy_alloc _ _ none) (fun r e => by cases e)) (grown_of_below HB2.out none) (fun r e => by cases e)
        case measure => simp [intOf]
    obtain rfl : m = 3 := by omega
    gi_wp2
    go_end0
    exact ⟨⟨_, rfl⟩, .inl ⟨_, rfl, HJ1.out⟩⟩

end Go.Proofs.Ytkocigldchiifaa.H
