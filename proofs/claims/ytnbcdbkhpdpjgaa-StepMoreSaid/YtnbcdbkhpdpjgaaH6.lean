/- (step.Sheet).offsets: the iterator over the offsets that lie on all arcs. -/
import Derived.RangeFuncNested
import Derived.RangeFuncBound
import Derived.RangeFuncCalls
import Derived.RangeFuncLeaves
import Derived.RangeFuncBox
import Derived.RangeFuncWrites
import Derived.Shelf.Abstract
import Derived.Shelf.RegionOpen
import Derived.WalkKit
import Derived.OwnWalkIn
import Derived.TacticsInMore
import Derived.LoopNIn
import Derived.LoopIn
import Derived.Maps.AppendAt
import Derived.Test.YtnbcdbkhpdpjgaaH5
namespace Go.Proofs.Ytnbcdbkhpdpjgaa.H
open Go.RowKit Go.Proofs.YtnbcdbkhpdpjgaaW.PrintWords Go.Proofs.YtnbcdbkhpdpjgaaW.PrintLast Go.Proofs.YtnbcdbkhpdpjgaaW.PrintMore
open Go.Shelf Go.Proofs.Ytnbcdbkhpdpjgaa.QA
attribute [local go_sem] Oper.semAt_some
set_option linter.unusedVariables false
set_option linter.unusedSimpArgs false

set_option maxHeartbeats 1000000 in
set_option maxRecDepth 100000 in
/-- (step.Sheet).offsets$1$1 -/
theorem offs11 (B1 B2 : Nat) (o step : Int) (l : List S98) (w : World) (h0 : w.cell? ⟨B1, 0, none⟩ = some (.int .i64 o)) (h1 : w.cell? ⟨B2, 0, none⟩ = some (.int .i64 step)) (hs : 1 ≤ step) (hs2 : step ≤ 1000000) (ha0 : 0 ≤ o) (ha1 : o < step) (hl : ∀ b ∈ l, 0 ≤ b.f0 ∧ b.f0 < step) :
    Pred 64 #[.pointer (some ⟨B1, 0, none⟩), .pointer (some ⟨B2, 0, none⟩)] (fun x : S98 => Value.agg #[.int .i64 x.f0, .int .i64 x.f1]) (· ∈ l) (fun x => !hasB step o x) w := by
  intro W x hx hW
  have h0' := (hW.cell (World.block_lt_of_cell? w _ h0)).trans h0
  have h1' := (hW.cell (World.block_lt_of_cell? w _ h1)).trans h1
  have hlt1 : B1 < W.heap.size := World.block_lt_of_cell? W _ h0'
  have hlt2 : B2 < W.heap.size := World.block_lt_of_cell? W _ h1'
  have hxl := hl x hx
  have hc := fun W => step_arc_has.calls x.f0 x.f1 o step _ W (has_spec x o step hs hs2 (by omega) (by omega) hxl.1 (by omega))
  have HC := Aside0.mk hc
  clear hc h0 h1 hW hl hx
  have hu98 := Try.underlying98
  go_enter Try.func64, Try.ntmps64
  go_wp2_with (go_at_call 65; refine (HC.out _).mono ?_; rintro e w' ⟨rfl, hb⟩)
  go_ret
  exact ⟨rfl, below_then (by repeat (first | exact Below.refl _ _ | apply below_alloc)) (by simp) hb⟩

/-- What a round keeps: all below n₀; rows of arcs; the variable of the step. -/
def KpO (n₀ B3 : Nat) (W W' : World) : Prop :=
  Below n₀ W W' ∧ (∀ (g : Nat) (cs : Array Value), W.heap[g]? = some (Obj.cells cs 98 (0, 0)) → W'.heap[g]? = some (Obj.cells cs 98 (0, 0))) ∧ (∀ (cs : Array Value) (t : TypeId) (fz : Nat × Nat), W.heap[B3]? = some (Obj.cells cs t fz) → W'.heap[B3]? = some (Obj.cells cs t fz))
theorem KpO.trans' {n₀ B3 : Nat} {A B C : World} (h : KpO n₀ B3 A B) (k : KpO n₀ B3 B C) : KpO n₀ B3 A C :=
  ⟨h.1.trans k.1, fun g cs hg => k.2.1 g cs (h.2.1 g cs hg), fun cs t fz hg => k.2.2 cs t fz (h.2.2 cs t fz hg)⟩
theorem KpO.putObj {n₀ B3 : Nat} {w : World} (hn : n₀ ≤ w.heap.size) (W : World) (l : Nat) (o o' : Obj) (hl : w.heap.size ≤ l) (h : W.heap[l]? = some o) (hc : o.isCells = false) (hw : o.isWalk = false) : KpO n₀ B3 W (W.putObj l o') := by
  refine ⟨belowK_b (w := w) hn W l o o' hl h hc hw, fun g cs hg => ?_, fun cs t fz hg => ?_⟩
  · rw [World.putObj_heap_other (fun e => by subst e; rw [h] at hg; cases hg; cases hc)]; exact hg
  · rw [World.putObj_heap_other (fun e => by subst e; rw [h] at hg; cases hg; cases hc)]; exact hg

/-- The offsets below k that lie on all arcs. -/
def offsB (arcs : List S98) (step : Int) (o : Int) : Bool := !arcs.any fun b => !hasB step o b
def offsTo (arcs : List S98) (step : Int) (k : Nat) : List Int := ((List.range k).map fun i : Nat => (i : Int)).filter (offsB arcs step)
theorem offsTo_succ (arcs : List S98) (step : Int) (k : Nat) : offsTo arcs step (k + 1) = offsTo arcs step k ++ (if offsB arcs step (k : Int) = true then [(k : Int)] else []) := by
  unfold offsTo
  rw [List.range_succ, List.map_append, List.filter_append]
  simp [List.filter_cons]
theorem offsTo_length (arcs : List S98) (step : Int) (k : Nat) : (offsTo arcs step k).length ≤ k := by
  unfold offsTo
  refine Nat.le_trans (List.length_filter_le _ _) (by simp)

theorem arcs_kept {n₀ B3 base : Nat} {W W' : World} {v : Value} {l : List S98} (hk : KpO n₀ B3 W W') (h : Kd.R k98 98 W base (fun _ => True) v l) : Kd.R k98 98 W' base (fun _ => True) v l := by
  refine Kd.R_mono (Kd.R_step (Kd.R_bound h) (fun k hk' _ => ?_)) (fun _ _ => trivial)
  obtain ⟨_, _, _, q, hq, cells, hc⟩ := hk'
  have : q = 98 := by
    rcases List.mem_cons.1 hq with rfl | hq
    · rfl
    · exact absurd hq (by show ¬ q ∈ ([] : List Nat); simp)
  subst this
  rw [hc]; exact hk.2.1 _ _ hc

set_option maxRecDepth 100000 in
set_option maxHeartbeats 4000000 in
/-- (step.Sheet).offsets$1: for every loop body that keeps what KpO tells. -/
theorem offs1_in (n : Nat) (hn : 1 ≤ n) (lp B1 B2 B3 n₀ : Nat) (off step : Int) (A0 : Option Addr) (c0 : Nat) (ls : List (List Int)) (A1 : Option Addr) (c1 : Nat) (l : List Int) (arcs : List S98) (J Jx : List Int → World → Prop)
    (hY : ∀ pre x W, J pre W → pre.length < step.toNat → YieldAt Fence.wide (n - 1) Try.prog lp #[.int .i64 x] W fun e W' =>
      (e = .returned (.bool true) ∧ J (pre ++ [x]) W' ∧ KpO n₀ B3 W W') ∨ (e = .returned (.bool false) ∧ Jx (pre ++ [x]) W'))
    (W : World) (hJ : AbidesFrom W.heap.size J)
    (h10 : W.cell? ⟨B1, 0, none⟩ = some (.int .i64 off)) (h11 : W.cell? ⟨B1, 1, none⟩ = some (.slice A0 ls.length c0)) (h2 : W.cell? ⟨B2, 0, none⟩ = some (.slice A1 l.length c1)) (h3 : W.heap[B3]? = some (.cells #[.int .i64 step] 3 (0, 0)))
    (hr0 : Kd.C (Kd.slice 3 (Kd.int .i64)) W A0 ls.length ls) (hc0 : ls.length ≤ c0) (hr1 : Kd.C (Kd.int .i64) W A1 l.length l) (hc1 : l.length ≤ c1)
    (hs : 1 ≤ step) (hs2 : step ≤ 1000000) (ha : step_Sheet_arcs.f (l.length + 1) off ls l step = some arcs) (hin : ∀ b ∈ arcs, 0 ≤ b.f0 ∧ b.f0 < step) (h0 : J [] W) :
    CallsIn Fence.wide n Try.prog 62 #[.func (.yield lp) #[] #[], .pointer (some ⟨B1, 0, none⟩), .pointer (some ⟨B2, 0, none⟩), .pointer (some ⟨B3, 0, none⟩)] W fun e W' => (∃ v, e = .returned v) ∧
      ((∃ ys, ys = offsTo arcs step step.toNat ∧ J ys W') ∨ (∃ pre, True ∧ Jx pre W')) := by
  have HA := Aside0.mk ha
  have HI := Aside0.mk hin
  have HR0 := Aside0.mk hr0
  have HR1 := Aside0.mk hr1
  have H3 := Aside0.mk h3
  have HY := Aside0.mk hY
  have HJ := Aside0.mk hJ
  have HJ0 := Aside0.mk h0
  have h3c : W.cell? ⟨B3, 0, none⟩ = some (.int .i64 step) := (blk_cell h3 0).trans rfl
  have hu24 := Try.underlying24
  clear ha hin hr0 hr1 h3 hY hJ h0
  refine callsIn_of_wp Try.func62 rfl trivial ?_ rfl
  simp only [Try.ntmps62, List.size_toArray, List.length_cons, List.length_nil, Nat.reduceAdd, Nat.reduceSub, Array.replicate_succ, Array.replicate_zero, List.push_toArray, List.append_toArray, List.nil_append, List.cons_append]
  gi_wp2_with (refine ⟨trivial, ?_⟩; gi_at_call 63; refine (callsIn_wide.2 (step_Sheet_arcs.calls _ off A0 c0 ls A1 c1 l step arcs _ HR0.out hc0 HR1.out hc1 HA.out)).mono ?_; rintro e w1 ⟨v, rfl, hR, hb⟩; obtain ⟨A, c, rfl, hc, hC⟩ := Kd.R_reads hR; have h3c' := pw_cell_below hb h3c; have HRA := Aside0.mk hR; have H3' := Aside0.mk (blk_below H3.out hb); have HJ1 := Aside0.mk (HJ.out _ _ _ none HJ0.out (grown_of_below hb none) (fun r e => by cases e)); have HB1 := Aside0.mk hb; clear hR hb hC)
  clear H3 HJ0 h3c h3c'
  gi_loopw [13] (fun s13 wr => ∃ k : Nat, k ≤ step.toNat ∧ s13 = .int .i64 k ∧ Aside0 (J (offsTo arcs step k) wr) ∧ Aside0 (Kd.R k98 98 wr W.heap.size (fun _ => True) (.slice A arcs.length c) arcs) ∧ Aside0 (wr.heap[B3]? = some (.cells #[.int .i64 step] 3 (0, 0))) ∧ Aside0 (W.heap.size ≤ wr.heap.size)) (fun s13 _ => step.toNat - (intOf s13).toNat)
  case atStart => exact ⟨0, Nat.zero_le _, rfl, HJ1, HRA, H3', ⟨HB1.out.size⟩⟩
  case round =>
    clear HJ1 HRA H3' HB1
    obtain ⟨k, hk, rfl, HJ1, HRA, H3, HZ⟩ := hrel
    have h3c : wr.cell? ⟨B3, 0, none⟩ = some (.int .i64 step) := (blk_cell H3.out 0).trans rfl
    have hz := HZ.out
    have hlt3 : B3 < wr.heap.size := World.block_lt_of_cell? wr _ h3c
    by_cases hlt : k < step.toNat
    · have hltz : decide ((k : Int) < step) = true := decide_eq_true (by omega)
      have hC := (Kd.R_reads' HRA.out).2.2
      have HC := Aside0.mk hC
      clear hC
      have hcall := conArcs 64 #[.pointer (some ⟨wr.heap.size, 0, none⟩), .pointer (some ⟨B3, 0, none⟩)] (fun x => !hasB step (k : Int) x) (enters_of Try.func64 (by kernel_rfl) rfl) A c arcs (wr.alloc (.cells #[.int .i64 k] 3)) (offs11 wr.heap.size B3 k step arcs _ (by simp) (by simp [World.cell?_alloc_past, hlt3, h3c]) hs hs2 (by omega) (by omega) HI.out) (Kd.C_alloc HC.out _) hc
      have hsucc := offsTo_succ arcs step k
      have hoB : offsB arcs step (k : Int) = !(arcs.any fun x => !hasB step (k : Int) x) := rfl
      have HLen := Aside0.mk (offsTo_length arcs step k)
      cases hq : arcs.any (fun x => !hasB step (k : Int) x) with
      | true =>
        rw [hq] at hcall hoB
        rw [hoB] at hsucc
        have HS := Aside0.mk hsucc
        have HCall := Aside0.mk hcall
        clear hcall hoB hsucc hq
        gi_wp2_with (refine ⟨trivial, ?_⟩; gi_at_call 66; refine (callsIn_wide.2 HCall.out).mono ?_; rintro e w2 ⟨rfl, hb2⟩; have HB2 := Aside0.mk hb2; clear hb2)
        refine ⟨fun _ h => (by cases h), ?_⟩
        gi_wp2
        go_roundw
        case rel =>
          refine ⟨k + 1, by omega, by go_num, ⟨?_⟩, ⟨Kd.R_below (Kd.R_alloc HRA.out _) HB2.out⟩, ⟨blk_below (blk_alloc H3.out _) HB2.out⟩, ⟨by have := HB2.out.size; simp at this; omega⟩⟩
          rw [HS.out]
          simp only [Bool.not_true, Bool.false_eq_true, if_false, List.append_nil]
          exact HJ.out _ _ _ none (HJ.out _ _ _ none HJ1.out (World.grownBy_alloc _ _ none) (fun r e => by cases e)) (grown_of_below HB2.out none) (fun r e => by cases e)
        case measure => simp [intOf]; omega
      | false =>
        rw [hq] at hcall hoB
        rw [hoB] at hsucc
        have HS := Aside0.mk hsucc
        have HCall := Aside0.mk hcall
        clear hcall hoB hsucc hq
        gi_wp2_with (refine ⟨trivial, ?_⟩; gi_at_call 66; refine (callsIn_wide.2 HCall.out).mono ?_; rintro e w2 ⟨rfl, hb2⟩; have HB2 := Aside0.mk hb2; have h6 := pw_cell_below hb2 (a := ⟨wr.heap.size, 0, none⟩) (v := .int .i64 k) (by simp); clear hb2; obtain ⟨fn, tmps, assign, body, hy, hR⟩ := HY.out (offsTo arcs step k) (k : Int) w2 (HJ.out _ _ _ none (HJ.out _ _ _ none HJ1.out (World.grownBy_alloc _ _ none) (fun r e => by cases e)) (grown_of_below HB2.out none) (fun r e => by cases e)) (by have := HLen.out; omega))
        refine hR.mono ?_
        rintro e W3 (⟨rfl, hJ3, hk3⟩ | ⟨rfl, hJx3⟩)
        · gi_wp2
          go_roundw
          case rel =>
            refine ⟨k + 1, by omega, by go_num, ⟨?_⟩, ⟨arcs_kept hk3 (Kd.R_below (Kd.R_alloc HRA.out _) HB2.out)⟩, ⟨hk3.2.2 _ _ _ (blk_below (blk_alloc H3.out _) HB2.out)⟩, ⟨by have := HB2.out.size; have := hk3.1.size; simp at *; omega⟩⟩
            rw [HS.out]
            exact hJ3
          case measure => simp [intOf]; omega
        · gi_wp2
          refine bodyPost_ret (results_none rfl _ _ _) rfl ?_
          exact ⟨⟨_, rfl⟩, .inr ⟨_, trivial, hJx3⟩⟩
    · have hltz : decide ((k : Int) < step) = false := decide_eq_false (by omega)
      obtain rfl : k = step.toNat := by omega
      gi_wp2
      go_end0
      exact ⟨⟨_, rfl⟩, .inl ⟨_, rfl, HJ1.out⟩⟩

end Go.Proofs.Ytnbcdbkhpdpjgaa.H
