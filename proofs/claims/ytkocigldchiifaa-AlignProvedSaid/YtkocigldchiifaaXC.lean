/- Texts H8, HA of this chapter, one behind the other. -/
import Derived.Carry
import Derived.Deep.LoopGhost
import Derived.LoopIn
import Derived.LoopNIn
import Derived.Maps.AppendAt
import Derived.OwnWalkIn
import Derived.RangeFuncBound
import Derived.RangeFuncBox
import Derived.RangeFuncCalls
import Derived.RangeFuncLeaves
import Derived.RangeFuncNested
import Derived.RangeFuncWrites
import Derived.Shelf.Abstract
import Derived.Shelf.RegionOpen
import Derived.TacticsInMore
import Derived.WalkKit
import Derived.Test.YtkocigldchiifaaXB

/- align.Walks. -/
namespace Go.Proofs.Ytkocigldchiifaa.H
open Go.RowKit Go.Proofs.YtkocigldchiifaaW.PrintWords Go.Proofs.YtkocigldchiifaaW.PrintLast Go.Proofs.YtkocigldchiifaaW.PrintMore
open Go.Shelf Go.Proofs.Ytkocigldchiifaa.QA
attribute [local go_sem] Oper.semAt_some
set_option linter.unusedVariables false
set_option linter.unusedSimpArgs false


def walks21_T : Bool × List (List Nat × List Nat) := (true, [([], []), ([], []), ([], []), ([2], [2]), ([3], [3]), ([0, 1, 4, 4, 0, 1, 2, 3, 4], [0, 1, 4])])
def walks21_B : List Nat := [0, 0, 0, 4, 12, 31]
theorem walks21_tab : rtab .any (opsOf Try.f32 21) = walks21_T := by kernel_rfl
theorem walks21_bits : waitsOk walks21_T.2 walks21_B = true := by kernel_rfl
attribute [local go_sem high] eqA25
attribute [local go_sem] max2_int min2_int max_two min_two max_three min_three max_four min_four
set_option maxRecDepth 100000 in
set_option maxHeartbeats 4000000 in
theorem walks_ok (A0 : Option Addr) (c0 : Nat) (a : List S59) (A1 : Option Addr) (c1 : Nat) (b : List S59) (hh : Int) (w0 : World) (hr0 : Kd.C k59 w0 A0 a.length a) (hc0 : a.length ≤ c0) (hr1 : Kd.C k59 w0 A1 b.length b) (hc1 : b.length ≤ c1) (he : align_Check.f a b = some 0) (hh0 : 0 ≤ hh) :
  Calls Try.prog 32 #[.slice A0 a.length c0, .slice A1 b.length c1, .int .i64 hh] w0 fun e w' => e = .returned (.tuple #[.int .i64 (cntI a b hh 0 0), .int .i64 0]) ∧ Below w0.heap.size w0 w' := by
 have hu25 := Try.underlying25
 have HR := Aside0.mk (rolls_of he)
 have HR0 := Aside0.mk hr0
 have HR1 := Aside0.mk hr1
 have HE := Aside0.mk he
 have HC := Aside0.mk (And.intro hc0 hc1)
 have zh : decide (hh < 0) = false := decide_eq_false (by omega)
 clear hr0 hr1 he hc0 hc1
 have hmm := @run_makeMap Try.prog
 refine calls_of_wp_marks Try.func32 rfl ?_
 simp only [Try.ntmps32, List.size_toArray, List.length_cons, List.length_nil, Nat.reduceAdd, Nat.reduceSub, Array.replicate_succ, Array.replicate_zero, List.push_toArray, List.append_toArray, List.nil_append, List.cons_append]
 go_wp2_with fail
 refine (newTable_ok A0 c0 a A1 c1 b _ HR0.out HC.out.1 HR1.out HC.out.2 HE.out).mono ?_
 rintro e w ⟨g, rfl, hT, _, hb⟩
 have HB0 := Aside0.mk hb
 have HT := Aside0.mk hT
 clear hb
 obtain ⟨A0', c0', A1', c1', ht, -, -⟩ := hT
 have HTT := Aside0.mk ht
 have t2 : w.cell? ⟨g, 2, none⟩ = some (.int .i64 ((a.length : Int) - 1)) := (blk_cell ht 2).trans rfl
 have t3 : w.cell? ⟨g, 3, none⟩ = some (.int .i64 ((b.length : Int) - 1)) := (blk_cell ht 3).trans rfl
 have hg := blk_lt ht
 clear ht
 go_wp2
 refine wp_loop_ghost_k (fun m a' w' => ∃ (i : Int) (u : Nat → Value) (ds : List Deferred), ((-1 ≤ i ∧ i < a.length) ∧ Aside0 (Sr (cntI a b hh) w w.heap.size (w.heap.size + 1) a b ds i ((b.length : Int) - 1) w')) ∧ a' = { tmps := #[u 0, u 1, .int .i64 hh, u 3, u 4, u 5, u 6, u 7, .pointer (some ⟨g, 0, none⟩), u 9, .pointer (some ⟨w.heap.size + 1, 0, none⟩), .int .i64 i, u 12, u 13, u 14, u 15, u 16, u 17, u 18, u 19, u 20, u 21, u 22, u 23, u 24, u 25, u 26, u 27, u 28, u 29, u 30, u 31, u 32, u 33, u 34, u 35, u 36, u 37, u 38, u 39, u 40, u 41, u 42, u 43, u 44, u 45, u 46, u 47, u 48, u 49, u 50, u 51, u 52, u 53, u 54, u 55, u 56, u 57, u 58, u 59, u 60, u 61, u 62, u 63, u 64, u 65, u 66, u 67, u 68, u 69, u 70, u 71, u 72, u 73, u 74, u 75, u 76, u 77, u 78], defers := ds } ∧ m = (i + 1).toNat) (((a.length : Int) - 1) + 1).toNat ?start ?round
 case start =>
  refine ⟨(a.length : Int) - 1, fun k => ([_, _, undef, _, _, _, _, _, undef, _, undef, undef, _, _, _, _, _, _, _, _, _, _, _, _, _, _, _, _, _, _, _, _, _, _, _, _, _, _, _, _, _, _, _, _, _, _, _, _, _, _, _, _, _, _, _, _, _, _, _, _, _, _, _, _, _, _, _, _, _, _, _, _, _, _, _, _, _, _, _] : List Value).getD k undef, _, ⟨by have := HR.out.ha; omega, ⟨?_⟩⟩, rfl, rfl⟩
  refine ⟨below_alloc (below_alloc (Below.refl _ _) _) _, by have := blk_new (w.alloc (.map #[] 0)) (.cells #[.map (some w.heap.size)] 87); simpa using this, ⟨0, _, (MapF.made w).below (below_alloc (Below.refl _ _) _), by omega, fun x y hx hxy => ?_, fun _ _ _ => rfl⟩, trivial⟩
  have := (hasP_iff a b x y).1 hx
  omega
 case round =>
  clear t2 t3 hg
  rintro m a' wr ⟨i, u, ds, ⟨hi, HS⟩, rfl, rfl⟩ J K hJ hK
  have HK := Aside0.mk hK
  have HJ := Aside0.mk hJ
  clear hK hJ
  have t3 : wr.cell? ⟨g, 3, none⟩ = some (.int .i64 ((b.length : Int) - 1)) := (blk_cell (blk_below HTT.out HS.out.below) 3).trans rfl
  have hlt : g < wr.heap.size := blk_lt (blk_below HTT.out HS.out.below)
  by_cases h0 : 0 ≤ i
  · have z0 : decide (i ≥ 0) = true := decide_eq_true h0
    go_wp2
    refine wp_loop_ghost_k (fun m a' w' => ∃ (k : Int) (u : Nat → Value) (ds : List Deferred), ((-1 ≤ k ∧ k < b.length) ∧ Aside0 (Sr (cntI a b hh) w w.heap.size (w.heap.size + 1) a b ds i k w')) ∧ a' = { tmps := #[u 0, u 1, .int .i64 hh, u 3, u 4, u 5, u 6, u 7, .pointer (some ⟨g, 0, none⟩), u 9, .pointer (some ⟨w.heap.size + 1, 0, none⟩), .int .i64 i, .int .i64 k, u 13, u 14, u 15, u 16, u 17, u 18, u 19, u 20, u 21, u 22, u 23, u 24, u 25, u 26, u 27, u 28, u 29, u 30, u 31, u 32, u 33, u 34, u 35, u 36, u 37, u 38, u 39, u 40, u 41, u 42, u 43, u 44, u 45, u 46, u 47, u 48, u 49, u 50, u 51, u 52, u 53, u 54, u 55, u 56, u 57, u 58, u 59, u 60, u 61, u 62, u 63, u 64, u 65, u 66, u 67, u 68, u 69, u 70, u 71, u 72, u 73, u 74, u 75, u 76, u 77, u 78], defers := ds } ∧ m = (k + 1).toNat) (((b.length : Int) - 1) + 1).toNat ?start ?round
    case start =>
     exact ⟨(b.length : Int) - 1, fun k => ([_, _, undef, _, _, _, _, _, undef, _, undef, undef, undef, _, _, _, _, _, _, _, _, _, _, _, _, _, _, _, _, _, _, _, _, _, _, _, _, _, _, _, _, _, _, _, _, _, _, _, _, _, _, _, _, _, _, _, _, _, _, _, _, _, _, _, _, _, _, _, _, _, _, _, _, _, _, _, _, _, _] : List Value).getD k undef, _, ⟨by have := HR.out.hb; omega, HS⟩, rfl, rfl⟩
    case round =>
     clear t3 HS hlt
     rintro m a' wr ⟨k, u, ds, ⟨hk, HS⟩, rfl, rfl⟩ J2 K2 hJ hK
     have HK2 := Aside0.mk hK
     have HJ2 := Aside0.mk hJ
     clear hK hJ
     have e1 : wrap64 (k - 1) = k - 1 := w64' _ (by omega) (by have := HR.out.hb; omega)
     by_cases h1 : 0 ≤ k
     · have z1 : decide (k ≥ 0) = true := decide_eq_true h1
       clear e1
       have hltw : wr.heap.size < (wr.alloc (Obj.cells #[Value.int IntKind.i64 i, Value.int IntKind.i64 k] 25)).heap.size := by simp
       go_wp2_with fail
       clear hltw
       have hsz : (wr.alloc (Obj.cells #[Value.int IntKind.i64 i, Value.int IntKind.i64 k] 25)).heap.size = wr.heap.size + 1 := by simp
       have hbw := below_alloc (Below.refl wr.heap.size wr) (Obj.cells #[Value.int IntKind.i64 i, Value.int IntKind.i64 k] 25)
       have hpb := blk_new wr (Obj.cells #[Value.int IntKind.i64 i, Value.int IntKind.i64 k] 25)
       generalize (wr.alloc (Obj.cells #[Value.int IntKind.i64 i, Value.int IntKind.i64 k] 25)) = w1 at hsz hbw hpb ⊢
       have hcc : w1.cell? ⟨wr.heap.size, 0, none⟩ = some (.int .i64 i) ∧ w1.cell? ⟨wr.heap.size, 1, none⟩ = some (.int .i64 k) := ⟨(blk_cell hpb 0).trans rfl, (blk_cell hpb 1).trans rfl⟩
       have HSZ := Aside0.mk (show wr.heap.size + 1 ≤ w1.heap.size by omega)
       have HBW := Aside0.mk hbw
       have HPB := Aside0.mk hpb
       have KK := Aside0.mk hcc
       have HTW := Aside0.mk (HT.out.below (HS.out.below.trans (hbw.mono HS.out.below.size)))
       clear hbw hpb hsz hcc
       have hfb := far_in (rd_good HR.out.ga i ⟨h0, hi.2⟩) (rd_good HR.out.gb k ⟨h1, hk.2⟩)
       generalize hfd : decide (farD (rd_T59 a i) (rd_T59 b k) > hh) = zf
       refine (far_calls g a b i k w1 HTW.out HR.out h0 hi.2 h1 hk.2).mono ?_
       rintro e wf ⟨rfl, hbb⟩
       replace KK := Aside0.mk (And.intro (pw_cell_below hbb KK.out.1) (pw_cell_below hbb KK.out.2))
       replace HBW := Aside0.mk (below_then HBW.out HBW.out.size hbb)
       replace HPB := Aside0.mk (blk_below2 hbb HPB.out)
       replace HSZ := Aside0.mk (Nat.le_trans HSZ.out hbb.size)
       clear hbb HTW
       cases zf with
       | true =>
        have hfar : hh < farD (rd_T59 a i) (rd_T59 b k) := of_decide_eq_true hfd
        have hV : cntI a b hh i k = 0 := by rw [cnt_eq a b hh i k ⟨h0, hi.2⟩ ⟨h1, hk.2⟩, if_pos hfar]
        have e1 : wrap64 (k - 1) = k - 1 := w64' _ (by omega) (by have := HR.out.hb; omega)
        go_wp2
        try simp only [e1]
        refine HK2.out _ _ (Handed.intro ((k - 1) + 1).toNat (by omega) (HJ2.out _ _ _ ⟨k - 1, fun k => ([_, _, undef, _, _, _, _, _, undef, _, undef, undef, undef, _, _, _, _, _, _, _, _, _, _, _, _, _, _, _, _, _, _, _, _, _, _, _, _, _, _, _, _, _, _, _, _, _, _, _, _, _, _, _, _, _, _, _, _, _, _, _, _, _, _, _, _, _, _, _, _, _, _, _, _, _, _, _, _, _, _] : List Value).getD k undef, _, ⟨by omega, ⟨HS.out.skip HBW.out hV⟩⟩, rfl, rfl⟩))
       | false =>
        have HFAR := Aside0.mk (of_decide_eq_false hfd)
        have t2 : wf.cell? ⟨g, 2, none⟩ = some (.int .i64 ((a.length : Int) - 1)) := (blk_cell (blk_below HTT.out (HS.out.below.trans (HBW.out.mono HS.out.below.size))) 2).trans rfl
        have t3 : wf.cell? ⟨g, 3, none⟩ = some (.int .i64 ((b.length : Int) - 1)) := (blk_cell (blk_below HTT.out (HS.out.below.trans (HBW.out.mono HS.out.below.size))) 3).trans rfl
        have p0 := KK.out.1
        have p1 := KK.out.2
        have hlt : g < wf.heap.size := blk_lt (blk_below HTT.out (HS.out.below.trans (HBW.out.mono HS.out.below.size)))
        have hlp : wr.heap.size < wf.heap.size := by have := HSZ.out; omega
        go_wp2
        clear hfd
        have hsz : (wf.alloc (Obj.cells #[Value.int IntKind.i64 0] 3)).heap.size = wf.heap.size + 1 := by simp
        have hba := below_alloc (Below.refl wf.heap.size wf) (Obj.cells #[Value.int IntKind.i64 0] 3)
        have hbb := blk_new wf (Obj.cells #[Value.int IntKind.i64 0] 3)
        replace HBW := Aside0.mk (below_then HBW.out HBW.out.size hba)
        replace HPB := Aside0.mk (blk_below2 hba HPB.out)
        replace p0 := pw_cell_below hba p0
        replace p1 := pw_cell_below hba p1
        replace t2 := pw_cell_below hba t2
        replace t3 := pw_cell_below hba t3
        clear hba KK
        generalize (wf.alloc (Obj.cells #[Value.int IntKind.i64 0] 3)) = w1 at hsz hbb HBW HPB p0 p1 t2 t3 ⊢
        have q0 : w1.cell? ⟨wf.heap.size, 0, none⟩ = some (.int .i64 0) := (blk_cell hbb 0).trans rfl
        have qf : w1.frozen? ⟨wf.heap.size, 0, none⟩ = false := blk_frozen hbb 0
        have HBB := Aside0.mk hbb
        clear hbb hlt
        generalize hz : ((i == (a.length : Int) - 1) && (k == (b.length : Int) - 1)) = zl
        cases zl with
        | true =>
         go_quiet (fail)
         go_wp2_with (go_at_call 52; refine (callsIn_wide.1 (moves_in 3 g i k _)).mono ?_; rintro e w2 ⟨rfl, rfl⟩)
         have hW0 : At1 w1 ((w1.drewN nq).setCell ⟨wf.heap.size, 0, none⟩ (.int .i64 1)) wf.heap.size 3 (.int .i64 1) := ((At1.start HBB.out).below (pw_below_drewN (Below.refl _ _) nq)).set _
         have hWL := hW0.below (below_alloc (below_alloc (Below.refl _ _) (Obj.cells #[Value.pointer (some ⟨g, 0, none⟩)] 80)) (Obj.cells #[Value.int IntKind.i64 i, Value.int IntKind.i64 k] 25))
         have hBt := blk_alloc (blk_new ((w1.drewN nq).setCell ⟨wf.heap.size, 0, none⟩ (.int .i64 1)) (Obj.cells #[Value.pointer (some ⟨g, 0, none⟩)] 80)) (Obj.cells #[Value.int IntKind.i64 i, Value.int IntKind.i64 k] 25)
         have hBp := blk_new (((w1.drewN nq).setCell ⟨wf.heap.size, 0, none⟩ (.int .i64 1)).alloc (Obj.cells #[Value.pointer (some ⟨g, 0, none⟩)] 80)) (Obj.cells #[Value.int IntKind.i64 i, Value.int IntKind.i64 k] 25)
         have hsl : ((((w1.drewN nq).setCell ⟨wf.heap.size, 0, none⟩ (.int .i64 1)).alloc (Obj.cells #[Value.pointer (some ⟨g, 0, none⟩)] 80)).alloc (Obj.cells #[Value.int IntKind.i64 i, Value.int IntKind.i64 k] 25)).heap.size = wf.heap.size + 3 := by simp; omega
         have hs0 : ((w1.drewN nq).setCell ⟨wf.heap.size, 0, none⟩ (.int .i64 1)).heap.size = wf.heap.size + 1 := by simp; omega
         rw [World.size_alloc] at hBp
         rw [hs0] at hBt hBp
         generalize ((((w1.drewN nq).setCell ⟨wf.heap.size, 0, none⟩ (.int .i64 1)).alloc (Obj.cells #[Value.pointer (some ⟨g, 0, none⟩)] 80)).alloc (Obj.cells #[Value.int IntKind.i64 i, Value.int IntKind.i64 k] 25)) = wl at hWL hBt hBp hsl ⊢
         clear hW0 hs0
         have hbl : Below wr.heap.size wr wl := HBW.out.trans (hWL.lower (by omega) (by omega))
         have hBO : Boxed wl wf.heap.size 3 (.int .i64 1) := hWL.cell
         have HPL := Aside0.mk (hWL.blk HPB.out (by omega))
         obtain ⟨n, f, hM, hn, hf⟩ := HS.out.mp
         have HMF := Aside0.mk (And.intro hM (And.intro hn hf))
         have HBL := Aside0.mk hbl
         have HSL := Aside0.mk hsl
         have hlo : w.heap.size + 1 < wr.heap.size := blk_lt HS.out.out
         have hbm : w.heap.size < wr.heap.size := by omega
         clear hM hn hf p0 p1 q0 qf t2 t3 hWL
         have hBox : wf.heap.size < wl.heap.size := by omega
         refine (wpIn_wide (n := 3)).1 ?_
         refine wpIn_rangeFunc_ownH rfl (by omega) (gf := 72) (lb := #[.pointer (some ⟨wf.heap.size + 1 + 1, 0, none⟩), .pointer (some ⟨wf.heap.size + 1, 0, none⟩)]) rfl trivial (enters_of Try.func72 (by kernel_rfl) rfl)
          (moves_stops _ (by omega) (wf.heap.size + 1 + 1) (wf.heap.size + 1) wf.heap.size g w.heap.size a b i k wl ((blk_cell hBp 0).trans rfl) ((blk_cell hBp 1).trans rfl) hBt (fun W' hb => HT.out.below ((HS.out.below.trans (hbl.mono HS.out.below.size)).trans hb)) (by omega) hBox ((ptr_boxed hBO).trans rfl) (by have := HR.out.ha; omega) (by have := HR.out.hb; omega)) KpM.trans' (KpM.putObj (by omega) hBox) (Below.refl _ _) (fun _ => rfl)
          (fun pre W => At1 wl W wf.heap.size 3 (.int .i64 (pre.foldl (fun m (q : {q : S25 // q ∈ movesOf a b i k}) => m + cntI a b hh q.1.f0 q.1.f1) 1)))
          (fun _ _ _ => False)
          (At1.own (fun pre : List {q : S25 // q ∈ movesOf a b i k} => (.int .i64 (pre.foldl (fun m (q : {q : S25 // q ∈ movesOf a b i k}) => m + cntI a b hh q.1.f0 q.1.f1) 1))) hBox)
          (fun _ _ _ _ _ hs _ _ => hs)
          (At1.start hBO)
          (fun x a' W => ∃ (u : Nat → Value) (Bq : Nat), a' = { tmps := #[u 0, u 1, u 2, u 3, u 4, u 5, u 6, u 7, u 8, u 9, .pointer (some ⟨w.heap.size + 1, 0, none⟩), u 11, u 12, u 13, .pointer (some ⟨wf.heap.size, 0, none⟩), .pointer (some ⟨Bq, 0, none⟩), u 16, u 17, u 18, u 19, u 20, u 21, u 22, u 23, u 24, u 25, u 26, u 27, u 28, u 29, u 30, u 31, u 32, u 33, u 34, u 35, u 36, u 37, u 38, u 39, u 40, u 41, u 42, u 43, u 44, u 45, u 46, u 47, u 48, u 49, u 50, u 51, u 52, u 53, u 54, u 55, u 56, u 57, u 58, u 59, u 60, u 61, u 62, u 63, u 64, u 65, u 66, u 67, u 68, u 69, u 70, u 71, u 72, u 73, u 74, u 75, u 76, u 77, u 78], defers := [] } ∧ W.heap[Bq]? = some (.cells #[.int .i64 x.1.f0, .int .i64 x.1.f1] 25 (0, 0)))
          (fun x a' _ X Y row hs hg hr => by
           obtain ⟨u, Bq, h1, h2⟩ := hs
           exact ⟨u, Bq, h1, (hg.block Bq (blk_lt2 h2) (fun e => by obtain ⟨_, o, ho, hc⟩ := hr Bq e.symm; rw [h2] at ho; cases ho; cases hc)).trans h2⟩) ?assignT ?bodyT ?doneT ?stopT
         case stopT =>
          rintro D c pre W _ _ h _
          exact h.elim
         case assignT =>
          intro l pre x W K hI hK
          gi_wp2
          obtain ⟨h1, h2, h3⟩ := quiet_pays (Bt := wf.heap.size + 1) (n₀ := w.heap.size) hI hBox (by omega) (below_alloc (Below.refl W.heap.size W) (Obj.cells #[Value.int IntKind.i64 x.1.f0, Value.int IntKind.i64 x.1.f1] 25))
          exact hK _ _ h1 h2 h3 ⟨fun k => ([_, _, _, _, _, _, _, _, _, _, undef, _, _, _, undef, undef, _, _, _, _, _, _, _, _, _, _, _, _, _, _, _, _, _, _, _, _, _, _, _, _, _, _, _, _, _, _, _, _, _, _, _, _, _, _, _, _, _, _, _, _, _, _, _, _, _, _, _, _, _, _, _, _, _, _, _, _, _, _, _] : List Value).getD k undef, _, rfl, blk_new _ _⟩
         case bodyT =>
          rintro l pre x a' W hl _ hI ⟨u, Bq, rfl, hq⟩ hlt
          have hbW : Below wr.heap.size wr W := HBL.out.trans (hI.lower (by omega) hBox)
          dsimp only
          have hx := (hasP_iff a b _ _).1 (moves_mem x.2).1
          have hin : inr x.1.f0 x.1.f1 := ⟨⟨by omega, by have := HR.out.ha; omega⟩, ⟨by omega, by have := HR.out.hb; omega⟩⟩
          have c3 : W.cell? ⟨w.heap.size + 1, 0, none⟩ = some (.map (some w.heap.size)) := (blk_cell (blk_below HS.out.out hbW) 0).trans rfl
          have c7 := hI.cell.cell
          have f7 := hI.cell.frozen
          have hl7 : wf.heap.size < W.heap.size := hI.cell.lt
          have c80 : W.cell? ⟨Bq, 0, none⟩ = some (.int .i64 x.1.f0) := (blk_cell hq 0).trans rfl
          have c81 : W.cell? ⟨Bq, 1, none⟩ = some (.int .i64 x.1.f1) := (blk_cell hq 1).trans rfl
          have hlk : (Instr.lookup 87 (.map (some w.heap.size)) (.agg #[.int .i64 x.1.f0, .int .i64 x.1.f1]) false).run Try.prog W.drew = .ok (.int .i64 ((f x.1.f0 x.1.f1).getD 0)) W.drew := MapF.look ((HMF.out.1.below hbW).same (w' := W.drew) rfl) und87 (zero3 _) hin
          have hfx := HMF.out.2.2.1 x.1.f0 x.1.f1 (moves_mem x.2).1 (by rcases (moves_mem x.2).2 with h | h | h <;> (have e0 := congrArg S25.f0 h; have e1 := congrArg S25.f1 h; simp only at e0 e1; omega))
          rw [hfx] at hlk
          have HHI := Aside0.mk hI
          have hb1 := foldl_add_in (fun q : {q : S25 // q ∈ movesOf a b i k} => cntI a b hh q.1.f0 q.1.f1) 4503599627370496 pre 1 (by omega) (fun q _ => cnt_in' a b hh (moves_mem q.2).1)
          have hb2 := cnt_in' a b hh (moves_mem x.2).1
          clear hfx hx hin hI hbW
          generalize hfb : (pre.foldl (fun m (q : {q : S25 // q ∈ movesOf a b i k}) => m + cntI a b hh q.1.f0 q.1.f1) 1) = bst at c7 hb1
          generalize hrx : cntI a b hh x.1.f0 x.1.f1 = rx at hlk hb2
          gi_wp2
          have hfold : (pre ++ [x]).foldl (fun m (q : {q : S25 // q ∈ movesOf a b i k}) => m + cntI a b hh q.1.f0 q.1.f1) 1 = bst + rx := by rw [List.foldl_append, hfb, List.foldl_cons, List.foldl_nil, hrx]
          have HFO := Aside0.mk hfold
          have ew : wrap64 (bst + rx) = bst + rx := w64' _ (by omega) (by have : (pre.length : Int) * 4503599627370496 ≤ 3 * 4503599627370496 := Int.mul_le_mul_of_nonneg_right (by omega) (by omega); omega)
          have ewi : IntKind.i64.wrap (bst + rx) = bst + rx := (i64_w _).trans ew
          have EWI := Aside0.mk ewi
          clear hfold hb1 hb2 ewi ew
          gi_region_with (fail)
          all_goals
           rw [EWI.out]
           obtain ⟨h1, h2, h3⟩ := set_pays2 (n₀ := w.heap.size) (Bt := wf.heap.size + 1) (u := .int .i64 (bst + rx)) HHI.out hBox (by omega) (by omega) (by decide) rfl (pw_below_drewN (Below.refl _ _) 1)
           exact ⟨h1, h2, (congrArg (fun z => At1 wl _ wf.heap.size 3 (.int .i64 z)) HFO.out).mpr h3⟩
         case doneT =>
          rintro D ys W hD hys hI hDf
          have hbW : Below wr.heap.size wr W := HBL.out.trans (hI.lower (by omega) hBox)
          have hv : ys.foldl (fun m (q : {q : S25 // q ∈ movesOf a b i k}) => m + cntI a b hh q.1.f0 q.1.f1) 1 = (movesOf a b i k).foldl (fun m q => m + cntI a b hh q.f0 q.f1) 1 := (List.foldl_map (f := fun q : {q : S25 // q ∈ movesOf a b i k} => q.1) (g := fun m (q : S25) => m + cntI a b hh q.f0 q.f1)).symm.trans (congrArg (fun z : List S25 => z.foldl (fun m q => m + cntI a b hh q.f0 q.f1) 1) hys)
          rw [hv] at hI
          have hre := cnt_eq a b hh i k ⟨h0, hi.2⟩ ⟨h1, hk.2⟩
          rw [if_neg (Int.not_lt.2 HFAR.out), if_pos (by simp at hz; omega)] at hre
          generalize (movesOf a b i k).foldl (fun m q => m + cntI a b hh q.f0 q.f1) 1 = best at hI hre
          clear hv hys hz
          have c3 : W.cell? ⟨w.heap.size + 1, 0, none⟩ = some (.map (some w.heap.size)) := (blk_cell (blk_below HS.out.out hbW) 0).trans rfl
          have hpW : W.heap[wr.heap.size]? = some (.cells #[.int .i64 i, .int .i64 k] 25 (0, 0)) := hI.blk HPL.out (by omega)
          have c60 : W.cell? ⟨wr.heap.size, 0, none⟩ = some (.int .i64 i) := (blk_cell hpW 0).trans rfl
          have c61 : W.cell? ⟨wr.heap.size, 1, none⟩ = some (.int .i64 k) := (blk_cell hpW 1).trans rfl
          have c7 := hI.cell.cell
          have KK := Aside0.mk (And.intro c3 (And.intro c60 (And.intro c61 c7)))
          have HBW2 := Aside0.mk hbW
          have HDF := Aside0.mk hDf
          have HRE := Aside0.mk hre
          clear hbW c3 hpW c60 c61 c7 hI hDf hre
          dsimp only
          go_wp2
          refine start_ (n := 6) (S := fun w' => w'.cell? ⟨w.heap.size + 1, 0, none⟩ = some (.map (some w.heap.size)) ∧ w'.cell? ⟨wr.heap.size, 0, none⟩ = some (.int .i64 i) ∧ w'.cell? ⟨wr.heap.size, 1, none⟩ = some (.int .i64 k) ∧ w'.cell? ⟨wf.heap.size, 0, none⟩ = some (.int .i64 best)) (ds := [5]) #[false, false, false, false, false, false] (by kernel_rfl) rfl rfl KK.out (fun hHeld => ?_)
          refine with_tabW walks21_tab walks21_bits (fun HT_ HW_ => ?_)
          have hbb : Below W.heap.size W W.drew := pw_below_drewN (Below.refl _ _) 1
          replace KK := Aside0.mk (And.intro (pw_cell_below hbb KK.out.1) (And.intro (pw_cell_below hbb KK.out.2.1) (And.intro (pw_cell_below hbb KK.out.2.2.1) (pw_cell_below hbb KK.out.2.2.2))))
          replace HBW2 := Aside0.mk (below_then HBW2.out HBW2.out.size hbb)
          replace HDF := Aside0.mk (blk_below2 hbb HDF.out)
          replace KK := Aside0.mk hHeld
          clear hbb
          generalize W.drew = w2 at HBW2 HDF KK hHeld ⊢
          refine take_ (i := 0) (N := some 71) (v := ?_) (a' := ?_) #[true, false, false, false, false, false] rfl rfl (take_ofW HT_.out HW_.out (by kernel_rfl)) (fun _ _ _ h => h) (Or.inl ⟨by rfl, ?_⟩) hHeld ?_ ?_
          rotate_left
          · rintro w' ⟨s0, s1, s2, s3⟩
            go_simp
            with_reducible rfl
          rotate_left
          · simp only [Act.put, List.setIfInBounds_toArray, List.set_cons_zero, List.set_cons_succ, i64_w, i32_w]
            rfl
          refine take_ (i := 1) (N := some 72) (v := ?_) (a' := ?_) #[true, true, false, false, false, false] rfl rfl (take_ofW HT_.out HW_.out (by kernel_rfl)) (fun _ _ _ h => h) (Or.inl ⟨by rfl, ?_⟩) hHeld ?_ ?_
          rotate_left
          · rintro w' ⟨s0, s1, s2, s3⟩
            go_simp
            with_reducible rfl
          rotate_left
          · simp only [Act.put, List.setIfInBounds_toArray, List.set_cons_zero, List.set_cons_succ, i64_w, i32_w]
            rfl
          refine take_ (i := 2) (N := some 73) (v := ?_) (a' := ?_) #[true, true, true, false, false, false] rfl rfl (take_ofW HT_.out HW_.out (by kernel_rfl)) (fun _ _ _ h => h) (Or.inl ⟨by rfl, ?_⟩) hHeld ?_ ?_
          rotate_left
          · rintro w' ⟨s0, s1, s2, s3⟩
            go_simp
            with_reducible rfl
          rotate_left
          · simp only [Act.put, List.setIfInBounds_toArray, List.set_cons_zero, List.set_cons_succ, i64_w, i32_w]
            rfl
          refine one_ (i := 3) (N := some 74) #[true, true, true, true, false, false] rfl rfl (one_of HT_.out (by kernel_rfl)) (by decide) (fun K hK => ?_)
          refine value_ (v := .slice (some ⟨w2.heap.size, 0, none⟩) 2 2) (w1 := w2.alloc (.cells #[.int .i64 best, .int .i64 4503599627370496] 3)) (by rfl) rfl (by go_simp) ?_
          have hbb := below_alloc (Below.refl w2.heap.size w2) (.cells #[.int .i64 best, .int .i64 4503599627370496] 3)
          have L0 : (w2.alloc (.cells #[.int .i64 best, .int .i64 4503599627370496] 3)).cell? ⟨w2.heap.size, 0, none⟩ = some (.int .i64 best) := (blk_cell (blk_new w2 _) 0).trans rfl
          have L1 : (w2.alloc (.cells #[.int .i64 best, .int .i64 4503599627370496] 3)).cell? ⟨w2.heap.size, 1, none⟩ = some (.int .i64 4503599627370496) := (blk_cell (blk_new w2 _) 1).trans rfl
          replace KK := Aside0.mk (And.intro (pw_cell_below hbb KK.out.1) (And.intro (pw_cell_below hbb KK.out.2.1) (And.intro (pw_cell_below hbb KK.out.2.2.1) (pw_cell_below hbb KK.out.2.2.2))))
          replace HBW2 := Aside0.mk (below_then HBW2.out HBW2.out.size hbb)
          replace HDF := Aside0.mk (blk_below2 hbb HDF.out)
          clear hbb
          refine hK.out _ _ KK.out (fun hHeld => ?_)
          clear hK K
          refine norm_ (a' := ?_) ?_ ?_
          rotate_left
          · show Act.put _ (some 74) _ = _
            simp only [Act.put, List.setIfInBounds_toArray, List.set_cons_zero, List.set_cons_succ, i64_w, i32_w]
            rfl
          refine one_ (i := 4) (N := some 75) #[true, true, true, true, true, false] rfl rfl (one_of HT_.out (by kernel_rfl)) (by decide) (fun K hK => ?_)
          refine goes_ Try.func65 (by kernel_rfl) rfl #[.slice (some ⟨w2.heap.size, 0, none⟩) 2 2] (by rfl) rfl rfl (by (try simp only [List.map_toArray, List.map_cons, List.map_nil]); first | done | rfl) ?_
          refine (lowest_calls w2.heap.size best 4503599627370496 _ L0 L1).mono ?_
          rintro e w3 ⟨rfl, rfl⟩
          refine ⟨_, rfl, ?_⟩
          refine hK.out _ _ KK.out (fun hHeld => ?_)
          clear hK K
          refine norm_ (a' := ?_) ?_ ?_
          rotate_left
          · show Act.put _ (some 75) _ = _
            simp only [Act.put, List.setIfInBounds_toArray, List.set_cons_zero, List.set_cons_succ, i64_w, i32_w]
            rfl
          obtain ⟨w4, hrun, hM4, hg4⟩ := (HMF.out.1.below HBW2.out).put und87 (by have := HMF.out.2.1; have := HR.out.ha; have := HR.out.hb; unfold maxLen; omega) (i := i) (k := k) ⟨⟨by omega, by have := HR.out.ha; omega⟩, ⟨by omega, by have := HR.out.hb; omega⟩⟩ (min best 4503599627370496)
          rw [← HRE.out] at hM4
          refine last_ (i := 5) (N := none) #[true, true, true, true, true, true] rfl rfl (one_of HT_.out (by kernel_rfl)) (by decide) (fun K hK => ?_)
          refine map_step (by rfl) rfl 87 (.tmp 71) (.tmp 72) (.tmp 75) rfl hrun ?_
          refine hK.out _ _ ?_
          clear hK K hrun
          refine done_ (done_of HT_.out (by kernel_rfl)) ?_
          clear HT_ HW_ hHeld
          have e1 : wrap64 (k - 1) = k - 1 := w64' _ (by omega) (by have := HR.out.hb; omega)
          go_wp2
          try simp only [e1]
          refine HK2.out _ _ (Handed.intro ((k - 1) + 1).toNat (by omega) (HJ2.out _ _ _ ⟨k - 1, fun k => ([_, _, undef, _, _, _, _, _, undef, _, undef, undef, undef, _, _, _, _, _, _, _, _, _, _, _, _, _, _, _, _, _, _, _, _, _, _, _, _, _, _, _, _, _, _, _, _, _, _, _, _, _, _, _, _, _, _, _, _, _, _, _, _, _, _, _, _, _, _, _, _, _, _, _, _, _, _, _, _, _, _] : List Value).getD k undef, _, ⟨by omega, ⟨HS.out.next HBW2.out hM4 HMF.out.2.1 HMF.out.2.2 hg4 ⟨Nat.le_refl _, hbm⟩ ⟨hlo, by omega⟩ (by omega) HDF.out⟩⟩, rfl, rfl⟩))
        | false =>
         go_quiet (fail)
         go_wp2_with (go_at_call 52; refine (callsIn_wide.1 (moves_in 3 g i k _)).mono ?_; rintro e w2 ⟨rfl, rfl⟩)
         have hW0 : At1 w1 (w1.drewN nq) wf.heap.size 3 (.int .i64 0) := (At1.start HBB.out).below (pw_below_drewN (Below.refl _ _) nq)
         have hWL := hW0.below (below_alloc (below_alloc (Below.refl _ _) (Obj.cells #[Value.pointer (some ⟨g, 0, none⟩)] 80)) (Obj.cells #[Value.int IntKind.i64 i, Value.int IntKind.i64 k] 25))
         have hBt := blk_alloc (blk_new (w1.drewN nq) (Obj.cells #[Value.pointer (some ⟨g, 0, none⟩)] 80)) (Obj.cells #[Value.int IntKind.i64 i, Value.int IntKind.i64 k] 25)
         have hBp := blk_new ((w1.drewN nq).alloc (Obj.cells #[Value.pointer (some ⟨g, 0, none⟩)] 80)) (Obj.cells #[Value.int IntKind.i64 i, Value.int IntKind.i64 k] 25)
         have hsl : (((w1.drewN nq).alloc (Obj.cells #[Value.pointer (some ⟨g, 0, none⟩)] 80)).alloc (Obj.cells #[Value.int IntKind.i64 i, Value.int IntKind.i64 k] 25)).heap.size = wf.heap.size + 3 := by simp; omega
         have hs0 : (w1.drewN nq).heap.size = wf.heap.size + 1 := by simp; omega
         rw [World.size_alloc] at hBp
         rw [hs0] at hBt hBp
         generalize (((w1.drewN nq).alloc (Obj.cells #[Value.pointer (some ⟨g, 0, none⟩)] 80)).alloc (Obj.cells #[Value.int IntKind.i64 i, Value.int IntKind.i64 k] 25)) = wl at hWL hBt hBp hsl ⊢
         clear hW0 hs0
         have hbl : Below wr.heap.size wr wl := HBW.out.trans (hWL.lower (by omega) (by omega))
         have hBO : Boxed wl wf.heap.size 3 (.int .i64 0) := hWL.cell
         have HPL := Aside0.mk (hWL.blk HPB.out (by omega))
         obtain ⟨n, f, hM, hn, hf⟩ := HS.out.mp
         have HMF := Aside0.mk (And.intro hM (And.intro hn hf))
         have HBL := Aside0.mk hbl
         have HSL := Aside0.mk hsl
         have hlo : w.heap.size + 1 < wr.heap.size := blk_lt HS.out.out
         have hbm : w.heap.size < wr.heap.size := by omega
         clear hM hn hf p0 p1 q0 qf t2 t3 hWL
         have hBox : wf.heap.size < wl.heap.size := by omega
         refine (wpIn_wide (n := 3)).1 ?_
         refine wpIn_rangeFunc_ownH rfl (by omega) (gf := 72) (lb := #[.pointer (some ⟨wf.heap.size + 1 + 1, 0, none⟩), .pointer (some ⟨wf.heap.size + 1, 0, none⟩)]) rfl trivial (enters_of Try.func72 (by kernel_rfl) rfl)
          (moves_stops _ (by omega) (wf.heap.size + 1 + 1) (wf.heap.size + 1) wf.heap.size g w.heap.size a b i k wl ((blk_cell hBp 0).trans rfl) ((blk_cell hBp 1).trans rfl) hBt (fun W' hb => HT.out.below ((HS.out.below.trans (hbl.mono HS.out.below.size)).trans hb)) (by omega) hBox ((ptr_boxed hBO).trans rfl) (by have := HR.out.ha; omega) (by have := HR.out.hb; omega)) KpM.trans' (KpM.putObj (by omega) hBox) (Below.refl _ _) (fun _ => rfl)
          (fun pre W => At1 wl W wf.heap.size 3 (.int .i64 (pre.foldl (fun m (q : {q : S25 // q ∈ movesOf a b i k}) => m + cntI a b hh q.1.f0 q.1.f1) 0)))
          (fun _ _ _ => False)
          (At1.own (fun pre : List {q : S25 // q ∈ movesOf a b i k} => (.int .i64 (pre.foldl (fun m (q : {q : S25 // q ∈ movesOf a b i k}) => m + cntI a b hh q.1.f0 q.1.f1) 0))) hBox)
          (fun _ _ _ _ _ hs _ _ => hs)
          (At1.start hBO)
          (fun x a' W => ∃ (u : Nat → Value) (Bq : Nat), a' = { tmps := #[u 0, u 1, u 2, u 3, u 4, u 5, u 6, u 7, u 8, u 9, .pointer (some ⟨w.heap.size + 1, 0, none⟩), u 11, u 12, u 13, .pointer (some ⟨wf.heap.size, 0, none⟩), .pointer (some ⟨Bq, 0, none⟩), u 16, u 17, u 18, u 19, u 20, u 21, u 22, u 23, u 24, u 25, u 26, u 27, u 28, u 29, u 30, u 31, u 32, u 33, u 34, u 35, u 36, u 37, u 38, u 39, u 40, u 41, u 42, u 43, u 44, u 45, u 46, u 47, u 48, u 49, u 50, u 51, u 52, u 53, u 54, u 55, u 56, u 57, u 58, u 59, u 60, u 61, u 62, u 63, u 64, u 65, u 66, u 67, u 68, u 69, u 70, u 71, u 72, u 73, u 74, u 75, u 76, u 77, u 78], defers := [] } ∧ W.heap[Bq]? = some (.cells #[.int .i64 x.1.f0, .int .i64 x.1.f1] 25 (0, 0)))
          (fun x a' _ X Y row hs hg hr => by
           obtain ⟨u, Bq, h1, h2⟩ := hs
           exact ⟨u, Bq, h1, (hg.block Bq (blk_lt2 h2) (fun e => by obtain ⟨_, o, ho, hc⟩ := hr Bq e.symm; rw [h2] at ho; cases ho; cases hc)).trans h2⟩) ?assignF ?bodyF ?doneF ?stopF
         case stopF =>
          rintro D c pre W _ _ h _
          exact h.elim
         case assignF =>
          intro l pre x W K hI hK
          gi_wp2
          obtain ⟨h1, h2, h3⟩ := quiet_pays (Bt := wf.heap.size + 1) (n₀ := w.heap.size) hI hBox (by omega) (below_alloc (Below.refl W.heap.size W) (Obj.cells #[Value.int IntKind.i64 x.1.f0, Value.int IntKind.i64 x.1.f1] 25))
          exact hK _ _ h1 h2 h3 ⟨fun k => ([_, _, _, _, _, _, _, _, _, _, undef, _, _, _, undef, undef, _, _, _, _, _, _, _, _, _, _, _, _, _, _, _, _, _, _, _, _, _, _, _, _, _, _, _, _, _, _, _, _, _, _, _, _, _, _, _, _, _, _, _, _, _, _, _, _, _, _, _, _, _, _, _, _, _, _, _, _, _, _, _] : List Value).getD k undef, _, rfl, blk_new _ _⟩
         case bodyF =>
          rintro l pre x a' W hl _ hI ⟨u, Bq, rfl, hq⟩ hlt
          have hbW : Below wr.heap.size wr W := HBL.out.trans (hI.lower (by omega) hBox)
          dsimp only
          have hx := (hasP_iff a b _ _).1 (moves_mem x.2).1
          have hin : inr x.1.f0 x.1.f1 := ⟨⟨by omega, by have := HR.out.ha; omega⟩, ⟨by omega, by have := HR.out.hb; omega⟩⟩
          have c3 : W.cell? ⟨w.heap.size + 1, 0, none⟩ = some (.map (some w.heap.size)) := (blk_cell (blk_below HS.out.out hbW) 0).trans rfl
          have c7 := hI.cell.cell
          have f7 := hI.cell.frozen
          have hl7 : wf.heap.size < W.heap.size := hI.cell.lt
          have c80 : W.cell? ⟨Bq, 0, none⟩ = some (.int .i64 x.1.f0) := (blk_cell hq 0).trans rfl
          have c81 : W.cell? ⟨Bq, 1, none⟩ = some (.int .i64 x.1.f1) := (blk_cell hq 1).trans rfl
          have hlk : (Instr.lookup 87 (.map (some w.heap.size)) (.agg #[.int .i64 x.1.f0, .int .i64 x.1.f1]) false).run Try.prog W.drew = .ok (.int .i64 ((f x.1.f0 x.1.f1).getD 0)) W.drew := MapF.look ((HMF.out.1.below hbW).same (w' := W.drew) rfl) und87 (zero3 _) hin
          have hfx := HMF.out.2.2.1 x.1.f0 x.1.f1 (moves_mem x.2).1 (by rcases (moves_mem x.2).2 with h | h | h <;> (have e0 := congrArg S25.f0 h; have e1 := congrArg S25.f1 h; simp only at e0 e1; omega))
          rw [hfx] at hlk
          have HHI := Aside0.mk hI
          have hb1 := foldl_add_in (fun q : {q : S25 // q ∈ movesOf a b i k} => cntI a b hh q.1.f0 q.1.f1) 4503599627370496 pre 0 (by omega) (fun q _ => cnt_in' a b hh (moves_mem q.2).1)
          have hb2 := cnt_in' a b hh (moves_mem x.2).1
          clear hfx hx hin hI hbW
          generalize hfb : (pre.foldl (fun m (q : {q : S25 // q ∈ movesOf a b i k}) => m + cntI a b hh q.1.f0 q.1.f1) 0) = bst at c7 hb1
          generalize hrx : cntI a b hh x.1.f0 x.1.f1 = rx at hlk hb2
          gi_wp2
          have hfold : (pre ++ [x]).foldl (fun m (q : {q : S25 // q ∈ movesOf a b i k}) => m + cntI a b hh q.1.f0 q.1.f1) 0 = bst + rx := by rw [List.foldl_append, hfb, List.foldl_cons, List.foldl_nil, hrx]
          have HFO := Aside0.mk hfold
          have ew : wrap64 (bst + rx) = bst + rx := w64' _ (by omega) (by have : (pre.length : Int) * 4503599627370496 ≤ 3 * 4503599627370496 := Int.mul_le_mul_of_nonneg_right (by omega) (by omega); omega)
          have ewi : IntKind.i64.wrap (bst + rx) = bst + rx := (i64_w _).trans ew
          have EWI := Aside0.mk ewi
          clear hfold hb1 hb2 ewi ew
          gi_region_with (fail)
          all_goals
           rw [EWI.out]
           obtain ⟨h1, h2, h3⟩ := set_pays2 (n₀ := w.heap.size) (Bt := wf.heap.size + 1) (u := .int .i64 (bst + rx)) HHI.out hBox (by omega) (by omega) (by decide) rfl (pw_below_drewN (Below.refl _ _) 1)
           exact ⟨h1, h2, (congrArg (fun z => At1 wl _ wf.heap.size 3 (.int .i64 z)) HFO.out).mpr h3⟩
         case doneF =>
          rintro D ys W hD hys hI hDf
          have hbW : Below wr.heap.size wr W := HBL.out.trans (hI.lower (by omega) hBox)
          have hv : ys.foldl (fun m (q : {q : S25 // q ∈ movesOf a b i k}) => m + cntI a b hh q.1.f0 q.1.f1) 0 = (movesOf a b i k).foldl (fun m q => m + cntI a b hh q.f0 q.f1) 0 := (List.foldl_map (f := fun q : {q : S25 // q ∈ movesOf a b i k} => q.1) (g := fun m (q : S25) => m + cntI a b hh q.f0 q.f1)).symm.trans (congrArg (fun z : List S25 => z.foldl (fun m q => m + cntI a b hh q.f0 q.f1) 0) hys)
          rw [hv] at hI
          have hre := cnt_eq a b hh i k ⟨h0, hi.2⟩ ⟨h1, hk.2⟩
          rw [if_neg (Int.not_lt.2 HFAR.out), if_neg (by simp at hz; omega)] at hre
          generalize (movesOf a b i k).foldl (fun m q => m + cntI a b hh q.f0 q.f1) 0 = best at hI hre
          clear hv hys hz
          have c3 : W.cell? ⟨w.heap.size + 1, 0, none⟩ = some (.map (some w.heap.size)) := (blk_cell (blk_below HS.out.out hbW) 0).trans rfl
          have hpW : W.heap[wr.heap.size]? = some (.cells #[.int .i64 i, .int .i64 k] 25 (0, 0)) := hI.blk HPL.out (by omega)
          have c60 : W.cell? ⟨wr.heap.size, 0, none⟩ = some (.int .i64 i) := (blk_cell hpW 0).trans rfl
          have c61 : W.cell? ⟨wr.heap.size, 1, none⟩ = some (.int .i64 k) := (blk_cell hpW 1).trans rfl
          have c7 := hI.cell.cell
          have KK := Aside0.mk (And.intro c3 (And.intro c60 (And.intro c61 c7)))
          have HBW2 := Aside0.mk hbW
          have HDF := Aside0.mk hDf
          have HRE := Aside0.mk hre
          clear hbW c3 hpW c60 c61 c7 hI hDf hre
          dsimp only
          go_wp2
          refine start_ (n := 6) (S := fun w' => w'.cell? ⟨w.heap.size + 1, 0, none⟩ = some (.map (some w.heap.size)) ∧ w'.cell? ⟨wr.heap.size, 0, none⟩ = some (.int .i64 i) ∧ w'.cell? ⟨wr.heap.size, 1, none⟩ = some (.int .i64 k) ∧ w'.cell? ⟨wf.heap.size, 0, none⟩ = some (.int .i64 best)) (ds := [5]) #[false, false, false, false, false, false] (by kernel_rfl) rfl rfl KK.out (fun hHeld => ?_)
          refine with_tabW walks21_tab walks21_bits (fun HT_ HW_ => ?_)
          have hbb : Below W.heap.size W W.drew := pw_below_drewN (Below.refl _ _) 1
          replace KK := Aside0.mk (And.intro (pw_cell_below hbb KK.out.1) (And.intro (pw_cell_below hbb KK.out.2.1) (And.intro (pw_cell_below hbb KK.out.2.2.1) (pw_cell_below hbb KK.out.2.2.2))))
          replace HBW2 := Aside0.mk (below_then HBW2.out HBW2.out.size hbb)
          replace HDF := Aside0.mk (blk_below2 hbb HDF.out)
          replace KK := Aside0.mk hHeld
          clear hbb
          generalize W.drew = w2 at HBW2 HDF KK hHeld ⊢
          refine take_ (i := 0) (N := some 71) (v := ?_) (a' := ?_) #[true, false, false, false, false, false] rfl rfl (take_ofW HT_.out HW_.out (by kernel_rfl)) (fun _ _ _ h => h) (Or.inl ⟨by rfl, ?_⟩) hHeld ?_ ?_
          rotate_left
          · rintro w' ⟨s0, s1, s2, s3⟩
            go_simp
            with_reducible rfl
          rotate_left
          · simp only [Act.put, List.setIfInBounds_toArray, List.set_cons_zero, List.set_cons_succ, i64_w, i32_w]
            rfl
          refine take_ (i := 1) (N := some 72) (v := ?_) (a' := ?_) #[true, true, false, false, false, false] rfl rfl (take_ofW HT_.out HW_.out (by kernel_rfl)) (fun _ _ _ h => h) (Or.inl ⟨by rfl, ?_⟩) hHeld ?_ ?_
          rotate_left
          · rintro w' ⟨s0, s1, s2, s3⟩
            go_simp
            with_reducible rfl
          rotate_left
          · simp only [Act.put, List.setIfInBounds_toArray, List.set_cons_zero, List.set_cons_succ, i64_w, i32_w]
            rfl
          refine take_ (i := 2) (N := some 73) (v := ?_) (a' := ?_) #[true, true, true, false, false, false] rfl rfl (take_ofW HT_.out HW_.out (by kernel_rfl)) (fun _ _ _ h => h) (Or.inl ⟨by rfl, ?_⟩) hHeld ?_ ?_
          rotate_left
          · rintro w' ⟨s0, s1, s2, s3⟩
            go_simp
            with_reducible rfl
          rotate_left
          · simp only [Act.put, List.setIfInBounds_toArray, List.set_cons_zero, List.set_cons_succ, i64_w, i32_w]
            rfl
          refine one_ (i := 3) (N := some 74) #[true, true, true, true, false, false] rfl rfl (one_of HT_.out (by kernel_rfl)) (by decide) (fun K hK => ?_)
          refine value_ (v := .slice (some ⟨w2.heap.size, 0, none⟩) 2 2) (w1 := w2.alloc (.cells #[.int .i64 best, .int .i64 4503599627370496] 3)) (by rfl) rfl (by go_simp) ?_
          have hbb := below_alloc (Below.refl w2.heap.size w2) (.cells #[.int .i64 best, .int .i64 4503599627370496] 3)
          have L0 : (w2.alloc (.cells #[.int .i64 best, .int .i64 4503599627370496] 3)).cell? ⟨w2.heap.size, 0, none⟩ = some (.int .i64 best) := (blk_cell (blk_new w2 _) 0).trans rfl
          have L1 : (w2.alloc (.cells #[.int .i64 best, .int .i64 4503599627370496] 3)).cell? ⟨w2.heap.size, 1, none⟩ = some (.int .i64 4503599627370496) := (blk_cell (blk_new w2 _) 1).trans rfl
          replace KK := Aside0.mk (And.intro (pw_cell_below hbb KK.out.1) (And.intro (pw_cell_below hbb KK.out.2.1) (And.intro (pw_cell_below hbb KK.out.2.2.1) (pw_cell_below hbb KK.out.2.2.2))))
          replace HBW2 := Aside0.mk (below_then HBW2.out HBW2.out.size hbb)
          replace HDF := Aside0.mk (blk_below2 hbb HDF.out)
          clear hbb
          refine hK.out _ _ KK.out (fun hHeld => ?_)
          clear hK K
          refine norm_ (a' := ?_) ?_ ?_
          rotate_left
          · show Act.put _ (some 74) _ = _
            simp only [Act.put, List.setIfInBounds_toArray, List.set_cons_zero, List.set_cons_succ, i64_w, i32_w]
            rfl
          refine one_ (i := 4) (N := some 75) #[true, true, true, true, true, false] rfl rfl (one_of HT_.out (by kernel_rfl)) (by decide) (fun K hK => ?_)
          refine goes_ Try.func65 (by kernel_rfl) rfl #[.slice (some ⟨w2.heap.size, 0, none⟩) 2 2] (by rfl) rfl rfl (by (try simp only [List.map_toArray, List.map_cons, List.map_nil]); first | done | rfl) ?_
          refine (lowest_calls w2.heap.size best 4503599627370496 _ L0 L1).mono ?_
          rintro e w3 ⟨rfl, rfl⟩
          refine ⟨_, rfl, ?_⟩
          refine hK.out _ _ KK.out (fun hHeld => ?_)
          clear hK K
          refine norm_ (a' := ?_) ?_ ?_
          rotate_left
          · show Act.put _ (some 75) _ = _
            simp only [Act.put, List.setIfInBounds_toArray, List.set_cons_zero, List.set_cons_succ, i64_w, i32_w]
            rfl
          obtain ⟨w4, hrun, hM4, hg4⟩ := (HMF.out.1.below HBW2.out).put und87 (by have := HMF.out.2.1; have := HR.out.ha; have := HR.out.hb; unfold maxLen; omega) (i := i) (k := k) ⟨⟨by omega, by have := HR.out.ha; omega⟩, ⟨by omega, by have := HR.out.hb; omega⟩⟩ (min best 4503599627370496)
          rw [← HRE.out] at hM4
          refine last_ (i := 5) (N := none) #[true, true, true, true, true, true] rfl rfl (one_of HT_.out (by kernel_rfl)) (by decide) (fun K hK => ?_)
          refine map_step (by rfl) rfl 87 (.tmp 71) (.tmp 72) (.tmp 75) rfl hrun ?_
          refine hK.out _ _ ?_
          clear hK K hrun
          refine done_ (done_of HT_.out (by kernel_rfl)) ?_
          clear HT_ HW_ hHeld
          have e1 : wrap64 (k - 1) = k - 1 := w64' _ (by omega) (by have := HR.out.hb; omega)
          go_wp2
          try simp only [e1]
          refine HK2.out _ _ (Handed.intro ((k - 1) + 1).toNat (by omega) (HJ2.out _ _ _ ⟨k - 1, fun k => ([_, _, undef, _, _, _, _, _, undef, _, undef, undef, undef, _, _, _, _, _, _, _, _, _, _, _, _, _, _, _, _, _, _, _, _, _, _, _, _, _, _, _, _, _, _, _, _, _, _, _, _, _, _, _, _, _, _, _, _, _, _, _, _, _, _, _, _, _, _, _, _, _, _, _, _, _, _, _, _, _, _] : List Value).getD k undef, _, ⟨by omega, ⟨HS.out.next HBW2.out hM4 HMF.out.2.1 HMF.out.2.2 hg4 ⟨Nat.le_refl _, hbm⟩ ⟨hlo, by omega⟩ (by omega) HDF.out⟩⟩, rfl, rfl⟩))
     · have z1 : decide (k ≥ 0) = false := decide_eq_false h1
       obtain rfl : k = -1 := by omega
       clear e1
       have e1 : wrap64 (i - 1) = i - 1 := w64' _ (by omega) (by have := HR.out.ha; omega)
       go_wp2
       refine HK.out _ _ (Handed.intro ((i - 1) + 1).toNat (by omega) (HJ.out _ _ _ ⟨i - 1, fun k => ([_, _, undef, _, _, _, _, _, undef, _, undef, undef, _, _, _, _, _, _, _, _, _, _, _, _, _, _, _, _, _, _, _, _, _, _, _, _, _, _, _, _, _, _, _, _, _, _, _, _, _, _, _, _, _, _, _, _, _, _, _, _, _, _, _, _, _, _, _, _, _, _, _, _, _, _, _, _, _, _, _] : List Value).getD k undef, _, ⟨by omega, ⟨HS.out.row HR.out.hb.2⟩⟩, rfl, rfl⟩))
  · have z0 : decide (i ≥ 0) = false := decide_eq_false h0
    obtain rfl : i = -1 := by omega
    have c3 : wr.cell? ⟨w.heap.size + 1, 0, none⟩ = some (.map (some w.heap.size)) := (blk_cell HS.out.out 0).trans rfl
    obtain ⟨n, f, hM, hn, hf⟩ := HS.out.mp
    have hlk : (Instr.lookup 87 (.map (some w.heap.size)) (.agg #[.int .i64 0, .int .i64 0]) false).run Try.prog wr = .ok (.int .i64 ((f 0 0).getD 0)) wr := MapF.look hM und87 (zero3 _) ⟨by omega, by omega⟩
    rw [hf.1 0 0 ((hasP_iff a b 0 0).2 ⟨⟨by omega, by have := HR.out.ha; omega⟩, ⟨by omega, by have := HR.out.hb; omega⟩⟩) (by omega)] at hlk
    clear hM hn hf
    go_wp2
    refine leaves_marks ds wr HS.out.marks (fun W' hb hk => ?_)
    exact ⟨_, results_tmp2 rfl _ _ _, rfl, HB0.out.trans ((HS.out.below.trans hb).mono HB0.out.size)⟩

end Go.Proofs.Ytkocigldchiifaa.H

/- align.Walks. -/
namespace Go.Proofs.Ytkocigldchiifaa.H
open Go.RowKit Go.Proofs.YtkocigldchiifaaW.PrintWords Go.Proofs.YtkocigldchiifaaW.PrintLast Go.Proofs.YtkocigldchiifaaW.PrintMore
open Go.Shelf Go.Proofs.Ytkocigldchiifaa.QA
attribute [local go_sem] Oper.semAt_some
set_option linter.unusedVariables false
set_option linter.unusedSimpArgs false


def align_Walks.f (l0 l1 : List S59) (hh : Int) : Option (Int × Int) := (align_Check.f l0 l1).bind fun e => some (if e = 0 then (if hh < 0 then (0, 3) else (cntI l0 l1 hh 0 0, 0)) else (0, e))
set_option maxRecDepth 100000 in
set_option maxHeartbeats 1000000 in
theorem align_Walks.calls (A0 : Option Addr) (c0 : Nat) (l0 : List S59) (A1 : Option Addr) (c1 : Nat) (l1 : List S59) (a2 : Int) (r1 r2 : Int) (w : World) (hr0 : Kd.C k59 w A0 l0.length l0) (hc0 : l0.length ≤ c0) (hr1 : Kd.C k59 w A1 l1.length l1) (hc1 : l1.length ≤ c1) (h : align_Walks.f l0 l1 a2 = some (r1, r2)) :
  Calls Try.prog 32 #[.slice A0 l0.length c0, .slice A1 l1.length c1, .int .i64 a2] w fun e w' => e = .returned (.tuple #[.int .i64 r1, .int .i64 r2]) ∧ Below w.heap.size w w' := by
 have hu25 := Try.underlying25
 unfold align_Walks.f at h
 obtain ⟨e, he, h⟩ := Option.bind_eq_some_iff.1 h
 have HR0 := Aside0.mk hr0
 have HR1 := Aside0.mk hr1
 have HE := Aside0.mk he
 have HC := Aside0.mk (And.intro hc0 hc1)
 have h1 := Option.some.inj h
 clear h he hr0 hr1 hc0 hc1
 by_cases h0 : e = 0
 · subst h0
   rw [if_pos rfl] at h1
   by_cases hl : a2 < 0
   · rw [if_pos hl] at h1
     obtain ⟨rfl, rfl⟩ := Prod.mk.inj h1
     have hlb : decide (a2 < 0) = true := decide_eq_true hl
     clear h1 hl
     go_enter Try.func32, Try.ntmps32
     go_wp2_with fail
     refine (newTable_ok A0 c0 l0 A1 c1 l1 _ HR0.out HC.out.1 HR1.out HC.out.2 HE.out).mono ?_
     rintro e w1 ⟨g, rfl, hT, _, hb⟩
     have HB := Aside0.mk hb
     clear hT hb
     go_wp2
     go_ret2
     exact ⟨rfl, HB.out⟩
   · rw [if_neg hl] at h1
     obtain ⟨rfl, rfl⟩ := Prod.mk.inj h1
     exact (walks_ok A0 c0 l0 A1 c1 l1 a2 w HR0.out HC.out.1 HR1.out HC.out.2 HE.out (Int.not_lt.1 hl))
 · rw [if_neg h0] at h1
   obtain ⟨rfl, rfl⟩ := Prod.mk.inj h1
   have hb0 : (e != 0) = true := by simp [h0]
   have H0 := Aside0.mk h0
   clear h1 h0
   go_enter Try.func32, Try.ntmps32
   go_wp2_with fail
   refine (newTable_no A0 c0 l0 A1 c1 l1 e _ HR0.out HC.out.1 HR1.out HC.out.2 HE.out H0.out).mono ?_
   rintro e w1 ⟨rfl, hb⟩
   have HB := Aside0.mk hb
   clear hb
   go_wp2
   go_ret2
   exact ⟨rfl, HB.out⟩

end Go.Proofs.Ytkocigldchiifaa.H
