/- (*table).rests: a map, pair by pair from the last one on. -/
import Derived.RangeFuncNested
import Derived.RangeFuncBound
import Derived.RangeFuncCalls
import Derived.RangeFuncLeaves
import Derived.RangeFuncBox
import Derived.RangeFuncWrites
import Derived.Shelf.Abstract
import Derived.Shelf.RegionOpen
import Derived.WalkKit
import Derived.OwnWalkIn
import Derived.TacticsInMore
import Derived.LoopNIn
import Derived.LoopIn
import Derived.Maps.AppendAt
import Derived.Carry
import Derived.Deep.LoopGhost
import Derived.Test.YtkocigldchiifaaH5
import Derived.Test.YtkocigldchiifaaP0
import Derived.Test.YtkocigldchiifaaD0
import Derived.Test.YtkocigldchiifaaR0
namespace Go.Proofs.Ytkocigldchiifaa.H
open Go.RowKit Go.Proofs.YtkocigldchiifaaW.PrintWords Go.Proofs.YtkocigldchiifaaW.PrintLast Go.Proofs.YtkocigldchiifaaW.PrintMore
open Go.Shelf Go.Proofs.Ytkocigldchiifaa.QA
attribute [local go_sem] Oper.semAt_some
set_option linter.unusedVariables false
set_option linter.unusedSimpArgs false


/-- The state of a map that is filled pair by pair, from the last one on, down to the pair (i, k), which is still to be done. -/
structure Sr (V : Int → Int → Int) (w0 : World) (bm Bo : Nat) (a b : List S59) (ds : List Deferred) (i k : Int) (W : World) : Prop where
 below : Below w0.heap.size w0 W
 out : W.heap[Bo]? = some (.cells #[.map (some bm)] 87 (0, 0))
 mp : ∃ (n : Nat) (f : Int → Int → Option Int), MapF eI W bm n f ∧ (n : Int) ≤ 1000 * ((a.length : Int) - 1 - i) + ((b.length : Int) - 1 - k) ∧ (∀ x y, hasP a b x y = true → (x > i ∨ x = i ∧ y > k) → (f x y).getD 0 = V x y) ∧ ∀ x y, (x < i ∨ x = i ∧ y ≤ k) → f x y = none
 marks : Marks w0.heap.size ds W
theorem Sr.row {V : Int → Int → Int} {w0 W : World} {bm Bo : Nat} {a b : List S59} {ds : List Deferred} {i : Int} (hb : b.length ≤ 30) (h : Sr V w0 bm Bo a b ds i (-1) W) : Sr V w0 bm Bo a b ds (i - 1) ((b.length : Int) - 1) W := by
 obtain ⟨h1, h2, ⟨n, f, h3, h4, h5, h7⟩, h6⟩ := h
 refine ⟨h1, h2, ⟨n, f, h3, by omega, fun x y hx hxy => h5 x y hx ?_, fun x y hxy => h7 x y (by omega)⟩, h6⟩
 have := (hasP_iff a b x y).1 hx
 omega

theorem Sr.next {V : Int → Int → Int} {w0 wr w3 w4 : World} {bm Bo D n : Nat} {f : Int → Int → Option Int} {a b : List S59} {ds : List Deferred} {i k : Int} (h : Sr V w0 bm Bo a b ds i k wr) (hb : Below wr.heap.size wr w3)
  (hM : MapF eI w4 bm (n + 1) (upd f i k (V i k))) (hn : (n : Int) ≤ 1000 * ((a.length : Int) - 1 - i) + ((b.length : Int) - 1 - k)) (hf : (∀ x y, hasP a b x y = true → (x > i ∨ x = i ∧ y > k) → (f x y).getD 0 = V x y) ∧ ∀ x y, (x < i ∨ x = i ∧ y ≤ k) → f x y = none) (hg : w3.grownBy w4 (some bm))
  (hbm : w0.heap.size ≤ bm ∧ bm < wr.heap.size) (hBo : Bo < wr.heap.size ∧ Bo ≠ bm) (hD : wr.heap.size ≤ D) (hDf : w3.heap[D]? = some (.deferred (some []))) :
  Sr V w0 bm Bo a b ({ target := .collected D, args := #[] } :: ds) i (k - 1) w4 := by
 have e1 : ∀ (x : Nat) (o : Obj), x ≠ bm → w3.heap[x]? = some o → w4.heap[x]? = some o := fun x o hx ho => (hg.block x (blk_lt2 ho) (fun e => hx (by injection e))).trans ho
 have e2 : ∀ (x : Nat) (o : Obj), x ≠ bm → wr.heap[x]? = some o → w4.heap[x]? = some o := fun x o hx ho => e1 x o hx (blk_below2 hb ho)
 have hsz := h.below.size
 refine ⟨(h.below.trans (hb.mono hsz)).grown hg (by have := hb.size; omega) (fun x e => by injection e with e; omega), e2 Bo _ hBo.2 h.out, ⟨n + 1, _, hM, by push_cast; omega, fun x y hx hxy => ?_, fun x y hxy => ?_⟩, ?_⟩
 · unfold upd
   by_cases he : x = i ∧ y = k
   · obtain ⟨rfl, rfl⟩ := he
     simp
   · rw [if_neg he]
     exact hf.1 x y hx (by omega)
 · unfold upd
   rw [if_neg (by omega)]
   exact hf.2 x y (by omega)
 · have hm : Marks w0.heap.size ds w4 := h.marks.mono' fun d hd D' he hD' => by
    refine e2 D' _ (fun e => ?_) hD'
    subst e
    obtain ⟨n', f', h3, -⟩ := h.mp
    obtain ⟨_, _, ⟨es, clock, hbb, _⟩, _⟩ := h3
    rw [hbb] at hD'
    cases hD'
   exact hm.cons h.marks hD (by omega) (e1 D _ (by omega) hDf)
theorem Sr.skip {V : Int → Int → Int} {w0 wr w3 : World} {bm Bo : Nat} {a b : List S59} {ds : List Deferred} {i k : Int} (h : Sr V w0 bm Bo a b ds i k wr) (hb : Below wr.heap.size wr w3) (hV : V i k = 0) : Sr V w0 bm Bo a b ds i (k - 1) w3 := by
 obtain ⟨h1, h2, ⟨n, f, h3, h4, h5, h7⟩, h6⟩ := h
 refine ⟨h1.trans (hb.mono h1.size), blk_below2 hb h2, ⟨n, f, h3.below hb, by omega, fun x y hx hxy => ?_, fun x y hxy => h7 x y (by omega)⟩, h6.below hb⟩
 by_cases he : x = i ∧ y = k
 · obtain ⟨rfl, rfl⟩ := he
   rw [h7 x y (by omega), hV]
   rfl
 · exact h5 x y hx (by omega)
theorem map_step {P : Program} {ops : Array Oper} {o : Oper} {a : Act} {Q : Exit → Act → World → Prop} {Kc : Act → World → Prop} {W w1 : World} (hw : Region.wanted o (yielded ops a.tmps) = true) (hN : o.dst = none) (t : TypeId) (m x v : Operand) (hop : o.op = .mapUpdate t m x v)
  (hrun : (Instr.mapUpdate t (a.eval m) (a.eval x) (a.eval v)).run P W = .ok () w1) (h : Kc a w1) : if Region.wanted o (yielded ops a.tmps) = true then Oper.wp P o a W Kc Q else Kc (a.put none undef) W :=
 store_step hw hN (by simp [execOp, hop, hrun, Result.andThen]) h
def rests15_T : Bool × List (List Nat × List Nat) := (true, [([], []), ([], []), ([], []), ([], []), ([], []), ([3, 4], [3, 4]), ([2, 5], [2, 5]), ([0, 1, 6, 5, 0, 1, 2, 3, 4, 5, 6], [0, 1, 6])])
def rests15_B : List Nat := [0, 0, 0, 0, 0, 24, 60, 127]
theorem rests15_tab : rtab .any (opsOf Try.f50 15) = rests15_T := by kernel_rfl
theorem rests15_bits : waitsOk rests15_T.2 rests15_B = true := by kernel_rfl
theorem MapF.obj {E : Type} {X : Elem E} {w : World} {b n : Nat} {f : Int → Int → Option E} (h : MapF X w b n f) : ∃ es c, w.heap[b]? = some (.map es c) := by
 obtain ⟨D, h1, ⟨es, clock, hb, h2⟩, h3⟩ := h
 exact ⟨es, clock, hb⟩
attribute [local go_sem high] eqA25
attribute [local go_sem] max2_int min2_int max_two min_two max_three min_three max_four min_four
set_option maxRecDepth 100000 in
set_option maxHeartbeats 4000000 in
theorem rests_calls (g : Nat) (a b : List S59) (w : World) (hT : Tb w g a b) (hR : Rolls a b) :
  Calls Try.prog 50 #[.pointer (some ⟨g, 0, none⟩)] w fun e w' => ∃ bm n f, e = .returned (.map (some bm)) ∧ MapF eI w' bm n f ∧ w.heap.size ≤ bm ∧ (∀ x y, hasP a b x y = true → (f x y).getD 0 = restI a b x y) ∧ Below w.heap.size w w' := by
 have HT := Aside0.mk hT
 have HR := Aside0.mk hR
 obtain ⟨A0, c0, A1, c1, ht, -, -⟩ := hT
 have HTT := Aside0.mk ht
 have t2 : w.cell? ⟨g, 2, none⟩ = some (.int .i64 ((a.length : Int) - 1)) := (blk_cell ht 2).trans rfl
 have t3 : w.cell? ⟨g, 3, none⟩ = some (.int .i64 ((b.length : Int) - 1)) := (blk_cell ht 3).trans rfl
 have hg := blk_lt ht
 clear hR ht
 have hmm := @run_makeMap Try.prog
 refine calls_of_wp_marks Try.func50 rfl ?_
 simp only [Try.ntmps50, List.size_toArray, List.length_cons, List.length_nil, Nat.reduceAdd, Nat.reduceSub, Array.replicate_succ, Array.replicate_zero, List.push_toArray, List.append_toArray, List.nil_append, List.cons_append]
 go_wp2
 refine wp_loop_ghost_k (fun m a' w' => ∃ (i : Int) (u : Nat → Value) (ds : List Deferred), ((-1 ≤ i ∧ i < a.length) ∧ Aside0 (Sr (restI a b) w w.heap.size (w.heap.size + 1) a b ds i ((b.length : Int) - 1) w')) ∧ a' = { tmps := #[.pointer (some ⟨g, 0, none⟩), u 1, .map none, .pointer (some ⟨w.heap.size + 1, 0, none⟩), .int .i64 i, u 5, u 6, u 7, u 8, u 9, u 10, u 11, u 12, u 13, u 14, u 15, u 16, u 17, u 18, u 19, u 20, u 21, u 22, u 23, u 24, u 25, u 26, u 27, u 28, u 29, u 30, u 31, u 32, u 33, u 34, u 35, u 36, u 37, u 38, u 39, u 40, u 41, u 42, u 43, u 44, u 45, u 46, u 47, u 48, u 49, u 50, u 51, u 52, u 53, u 54], defers := ds } ∧ m = (i + 1).toNat) (((a.length : Int) - 1) + 1).toNat ?start ?round
 case start =>
  refine ⟨(a.length : Int) - 1, fun k => ([undef, _, undef, undef, undef, _, _, _, _, _, _, _, _, _, _, _, _, _, _, _, _, _, _, _, _, _, _, _, _, _, _, _, _, _, _, _, _, _, _, _, _, _, _, _, _, _, _, _, _, _, _, _, _, _, _] : List Value).getD k undef, _, ⟨by have := HR.out.ha; omega, ⟨?_⟩⟩, rfl, rfl⟩
  refine ⟨below_alloc (below_alloc (Below.refl _ _) _) _, by have := blk_new (w.alloc (.map #[] 0)) (.cells #[.map (some w.heap.size)] 87); simpa using this, ⟨0, _, (MapF.made w).below (below_alloc (Below.refl _ _) _), by omega, fun x y hx hxy => ?_, fun _ _ _ => rfl⟩, trivial⟩
  have := (hasP_iff a b x y).1 hx
  omega
 case round =>
  clear t2 t3 hg
  rintro m a' wr ⟨i, u, ds, ⟨hi, HS⟩, rfl, rfl⟩ J K hJ hK
  have HK := Aside0.mk hK
  have HJ := Aside0.mk hJ
  clear hK hJ
  have t3 : wr.cell? ⟨g, 3, none⟩ = some (.int .i64 ((b.length : Int) - 1)) := (blk_cell (blk_below HTT.out HS.out.below) 3).trans rfl
  have hlt : g < wr.heap.size := blk_lt (blk_below HTT.out HS.out.below)
  by_cases h0 : 0 ≤ i
  · have z0 : decide (i ≥ 0) = true := decide_eq_true h0
    go_wp2
    refine wp_loop_ghost_k (fun m a' w' => ∃ (k : Int) (u : Nat → Value) (ds : List Deferred), ((-1 ≤ k ∧ k < b.length) ∧ Aside0 (Sr (restI a b) w w.heap.size (w.heap.size + 1) a b ds i k w')) ∧ a' = { tmps := #[.pointer (some ⟨g, 0, none⟩), u 1, .map none, .pointer (some ⟨w.heap.size + 1, 0, none⟩), .int .i64 i, .int .i64 k, u 6, u 7, u 8, u 9, u 10, u 11, u 12, u 13, u 14, u 15, u 16, u 17, u 18, u 19, u 20, u 21, u 22, u 23, u 24, u 25, u 26, u 27, u 28, u 29, u 30, u 31, u 32, u 33, u 34, u 35, u 36, u 37, u 38, u 39, u 40, u 41, u 42, u 43, u 44, u 45, u 46, u 47, u 48, u 49, u 50, u 51, u 52, u 53, u 54], defers := ds } ∧ m = (k + 1).toNat) (((b.length : Int) - 1) + 1).toNat ?start ?round
    case start =>
     exact ⟨(b.length : Int) - 1, fun k => ([undef, _, undef, undef, undef, undef, _, _, _, _, _, _, _, _, _, _, _, _, _, _, _, _, _, _, _, _, _, _, _, _, _, _, _, _, _, _, _, _, _, _, _, _, _, _, _, _, _, _, _, _, _, _, _, _, _] : List Value).getD k undef, _, ⟨by have := HR.out.hb; omega, HS⟩, rfl, rfl⟩
    case round =>
     clear t3 HS hlt
     rintro m a' wr ⟨k, u, ds, ⟨hk, HS⟩, rfl, rfl⟩ J2 K2 hJ hK
     have HK2 := Aside0.mk hK
     have HJ2 := Aside0.mk hJ
     clear hK hJ
     by_cases h1 : 0 ≤ k
     · have z1 : decide (k ≥ 0) = true := decide_eq_true h1
       have t2 : wr.cell? ⟨g, 2, none⟩ = some (.int .i64 ((a.length : Int) - 1)) := (blk_cell (blk_below HTT.out HS.out.below) 2).trans rfl
       have t3 : wr.cell? ⟨g, 3, none⟩ = some (.int .i64 ((b.length : Int) - 1)) := (blk_cell (blk_below HTT.out HS.out.below) 3).trans rfl
       have hlt : g < wr.heap.size := blk_lt (blk_below HTT.out HS.out.below)
       have hlo : w.heap.size + 1 < wr.heap.size := blk_lt HS.out.out
       go_wp2
       have hsz : ((wr.alloc (Obj.cells #[Value.int IntKind.i64 i, Value.int IntKind.i64 k] 25)).alloc (Obj.cells #[Value.int IntKind.i64 1000000] 3)).heap.size = wr.heap.size + 2 := by simp
       have hbw := below_alloc (below_alloc (Below.refl wr.heap.size wr) (Obj.cells #[Value.int IntKind.i64 i, Value.int IntKind.i64 k] 25)) (Obj.cells #[Value.int IntKind.i64 1000000] 3)
       have hpb := blk_alloc (blk_new wr (Obj.cells #[Value.int IntKind.i64 i, Value.int IntKind.i64 k] 25)) (Obj.cells #[Value.int IntKind.i64 1000000] 3)
       have hbb := blk_new (wr.alloc (Obj.cells #[Value.int IntKind.i64 i, Value.int IntKind.i64 k] 25)) (Obj.cells #[Value.int IntKind.i64 1000000] 3)
       rw [World.size_alloc] at hbb
       generalize ((wr.alloc (Obj.cells #[Value.int IntKind.i64 i, Value.int IntKind.i64 k] 25)).alloc (Obj.cells #[Value.int IntKind.i64 1000000] 3)) = w1 at hsz hbw hpb hbb ⊢
       have p0 : w1.cell? ⟨wr.heap.size, 0, none⟩ = some (.int .i64 i) := (blk_cell hpb 0).trans rfl
       have p1 : w1.cell? ⟨wr.heap.size, 1, none⟩ = some (.int .i64 k) := (blk_cell hpb 1).trans rfl
       have q0 : w1.cell? ⟨wr.heap.size + 1, 0, none⟩ = some (.int .i64 1000000) := (blk_cell hbb 0).trans rfl
       have qf : w1.frozen? ⟨wr.heap.size + 1, 0, none⟩ = false := blk_frozen hbb 0
       replace t2 := pw_cell_below hbw t2
       replace t3 := pw_cell_below hbw t3
       have HBW := Aside0.mk hbw
       have HPB := Aside0.mk hpb
       have HBB := Aside0.mk hbb
       clear hbw hpb hbb hlt hlo
       generalize hz : ((i == (a.length : Int) - 1) && (k == (b.length : Int) - 1)) = zl
       cases zl with
       | true =>
        go_quiet (fail)
        go_wp2_with (go_at_call 52; refine (callsIn_wide.1 (moves_in 3 g i k _)).mono ?_; rintro e w2 ⟨rfl, rfl⟩)
        have hW0 : At1 w1 ((w1.drewN nq).setCell ⟨wr.heap.size + 1, 0, none⟩ (.int .i64 0)) (wr.heap.size + 1) 3 (.int .i64 0) := ((At1.start HBB.out).below (pw_below_drewN (Below.refl _ _) nq)).set _
        have hWL := hW0.below (below_alloc (below_alloc (Below.refl _ _) (Obj.cells #[Value.pointer (some ⟨g, 0, none⟩)] 80)) (Obj.cells #[Value.int IntKind.i64 i, Value.int IntKind.i64 k] 25))
        have hBt := blk_alloc (blk_new ((w1.drewN nq).setCell ⟨wr.heap.size + 1, 0, none⟩ (.int .i64 0)) (Obj.cells #[Value.pointer (some ⟨g, 0, none⟩)] 80)) (Obj.cells #[Value.int IntKind.i64 i, Value.int IntKind.i64 k] 25)
        have hBp := blk_new (((w1.drewN nq).setCell ⟨wr.heap.size + 1, 0, none⟩ (.int .i64 0)).alloc (Obj.cells #[Value.pointer (some ⟨g, 0, none⟩)] 80)) (Obj.cells #[Value.int IntKind.i64 i, Value.int IntKind.i64 k] 25)
        have hsl : ((((w1.drewN nq).setCell ⟨wr.heap.size + 1, 0, none⟩ (.int .i64 0)).alloc (Obj.cells #[Value.pointer (some ⟨g, 0, none⟩)] 80)).alloc (Obj.cells #[Value.int IntKind.i64 i, Value.int IntKind.i64 k] 25)).heap.size = wr.heap.size + 4 := by simp; omega
        have hs0 : ((w1.drewN nq).setCell ⟨wr.heap.size + 1, 0, none⟩ (.int .i64 0)).heap.size = wr.heap.size + 2 := by simp; omega
        rw [World.size_alloc] at hBp
        rw [hs0] at hBt hBp
        generalize ((((w1.drewN nq).setCell ⟨wr.heap.size + 1, 0, none⟩ (.int .i64 0)).alloc (Obj.cells #[Value.pointer (some ⟨g, 0, none⟩)] 80)).alloc (Obj.cells #[Value.int IntKind.i64 i, Value.int IntKind.i64 k] 25)) = wl at hWL hBt hBp hsl ⊢
        clear hW0 hs0
        have hbl : Below wr.heap.size wr wl := HBW.out.trans (hWL.lower (by omega) (by omega))
        have hBO : Boxed wl (wr.heap.size + 1) 3 (.int .i64 0) := hWL.cell
        have HPL := Aside0.mk (hWL.blk HPB.out (by omega))
        obtain ⟨n, f, hM, hn, hf⟩ := HS.out.mp
        have HMF := Aside0.mk (And.intro hM (And.intro hn hf))
        have HBL := Aside0.mk hbl
        have HSL := Aside0.mk hsl
        have hlo : w.heap.size + 1 < wr.heap.size := blk_lt HS.out.out
        have hbm : w.heap.size < wr.heap.size := by omega
        clear hM hn hf p0 p1 q0 qf t2 t3 hWL
        have hBox : wr.heap.size + 1 < wl.heap.size := by omega
        refine (wpIn_wide (n := 3)).1 ?_
        refine wpIn_rangeFunc_ownH rfl (by omega) (gf := 72) (lb := #[.pointer (some ⟨wr.heap.size + 2 + 1, 0, none⟩), .pointer (some ⟨wr.heap.size + 2, 0, none⟩)]) rfl trivial (enters_of Try.func72 (by kernel_rfl) rfl)
         (moves_stops _ (by omega) (wr.heap.size + 2 + 1) (wr.heap.size + 2) (wr.heap.size + 1) g w.heap.size a b i k wl ((blk_cell hBp 0).trans rfl) ((blk_cell hBp 1).trans rfl) hBt (fun W' hb => HT.out.below ((HS.out.below.trans (hbl.mono HS.out.below.size)).trans hb)) (by omega) hBox ((ptr_boxed hBO).trans rfl) (by have := HR.out.ha; omega) (by have := HR.out.hb; omega)) KpM.trans' (KpM.putObj (by omega) hBox) (Below.refl _ _) (fun _ => rfl)
         (fun pre W => At1 wl W (wr.heap.size + 1) 3 (.int .i64 (pre.foldl (fun m (q : {q : S25 // q ∈ movesOf a b i k}) => min m (restI a b q.1.f0 q.1.f1)) 0)))
         (fun _ _ _ => False)
         (At1.own (fun pre : List {q : S25 // q ∈ movesOf a b i k} => (.int .i64 (pre.foldl (fun m (q : {q : S25 // q ∈ movesOf a b i k}) => min m (restI a b q.1.f0 q.1.f1)) 0))) hBox)
         (fun _ _ _ _ _ hs _ _ => hs)
         (At1.start hBO)
         (fun x a' W => ∃ (u : Nat → Value) (Bq : Nat), a' = { tmps := #[u 0, u 1, u 2, .pointer (some ⟨w.heap.size + 1, 0, none⟩), u 4, u 5, u 6, .pointer (some ⟨wr.heap.size + 1, 0, none⟩), .pointer (some ⟨Bq, 0, none⟩), u 9, u 10, u 11, u 12, u 13, u 14, u 15, u 16, u 17, u 18, u 19, u 20, u 21, u 22, u 23, u 24, u 25, u 26, u 27, u 28, u 29, u 30, u 31, u 32, u 33, u 34, u 35, u 36, u 37, u 38, u 39, u 40, u 41, u 42, u 43, u 44, u 45, u 46, u 47, u 48, u 49, u 50, u 51, u 52, u 53, u 54], defers := [] } ∧ W.heap[Bq]? = some (.cells #[.int .i64 x.1.f0, .int .i64 x.1.f1] 25 (0, 0)))
         (fun x a' _ X Y row hs hg hr => by
          obtain ⟨u, Bq, h1, h2⟩ := hs
          exact ⟨u, Bq, h1, (hg.block Bq (blk_lt2 h2) (fun e => by obtain ⟨_, o, ho, hc⟩ := hr Bq e.symm; rw [h2] at ho; cases ho; cases hc)).trans h2⟩) ?assignT ?bodyT ?doneT ?stopT
        case stopT =>
         rintro D c pre W _ _ h _
         exact h.elim
        case assignT =>
         intro l pre x W K hI hK
         gi_wp2
         obtain ⟨h1, h2, h3⟩ := quiet_pays (Bt := wr.heap.size + 2) (n₀ := w.heap.size) hI hBox (by omega) (below_alloc (Below.refl W.heap.size W) (Obj.cells #[Value.int IntKind.i64 x.1.f0, Value.int IntKind.i64 x.1.f1] 25))
         exact hK _ _ h1 h2 h3 ⟨fun k => ([_, _, _, undef, _, _, _, undef, undef, _, _, _, _, _, _, _, _, _, _, _, _, _, _, _, _, _, _, _, _, _, _, _, _, _, _, _, _, _, _, _, _, _, _, _, _, _, _, _, _, _, _, _, _, _, _] : List Value).getD k undef, _, rfl, blk_new _ _⟩
        case bodyT =>
         rintro l pre x a' W hl _ hI ⟨u, Bq, rfl, hq⟩ hlt
         have hbW : Below wr.heap.size wr W := HBL.out.trans (hI.lower (by omega) hBox)
         dsimp only
         have hx := (hasP_iff a b _ _).1 (moves_mem x.2).1
         have hin : inr x.1.f0 x.1.f1 := ⟨⟨by omega, by have := HR.out.ha; omega⟩, ⟨by omega, by have := HR.out.hb; omega⟩⟩
         have c3 : W.cell? ⟨w.heap.size + 1, 0, none⟩ = some (.map (some w.heap.size)) := (blk_cell (blk_below HS.out.out hbW) 0).trans rfl
         have c7 := hI.cell.cell
         have f7 := hI.cell.frozen
         have hl7 : wr.heap.size + 1 < W.heap.size := hI.cell.lt
         have c80 : W.cell? ⟨Bq, 0, none⟩ = some (.int .i64 x.1.f0) := (blk_cell hq 0).trans rfl
         have c81 : W.cell? ⟨Bq, 1, none⟩ = some (.int .i64 x.1.f1) := (blk_cell hq 1).trans rfl
         have hlk : (Instr.lookup 87 (.map (some w.heap.size)) (.agg #[.int .i64 x.1.f0, .int .i64 x.1.f1]) false).run Try.prog W.drew = .ok (.int .i64 ((f x.1.f0 x.1.f1).getD 0)) W.drew := MapF.look ((HMF.out.1.below hbW).same (w' := W.drew) rfl) und87 (zero3 _) hin
         have hfx := HMF.out.2.2.1 x.1.f0 x.1.f1 (moves_mem x.2).1 (by rcases (moves_mem x.2).2 with h | h | h <;> (have e0 := congrArg S25.f0 h; have e1 := congrArg S25.f1 h; simp only at e0 e1; omega))
         rw [hfx] at hlk
         have HHI := Aside0.mk hI
         have HIN := Aside0.mk (And.intro hx hin)
         have HBWW := Aside0.mk hbW
         clear hfx hx hin hI hbW
         generalize hfb : (pre.foldl (fun m (q : {q : S25 // q ∈ movesOf a b i k}) => min m (restI a b q.1.f0 q.1.f1)) 0) = bst at c7
         generalize hrx : restI a b x.1.f0 x.1.f1 = rx at hlk
         gi_wp2
         have hfold : (pre ++ [x]).foldl (fun m (q : {q : S25 // q ∈ movesOf a b i k}) => min m (restI a b q.1.f0 q.1.f1)) 0 = min bst rx := by rw [List.foldl_append, hfb, List.foldl_cons, List.foldl_nil, hrx]
         have HFO := Aside0.mk hfold
         clear hfold
         gi_region_with (refine ⟨trivial, ?_⟩; gi_at_call 65; refine (callsIn_round (lowest_calls W.heap.size bst rx _ (by simp) (by simp))).mono ?_; rintro e w2 ⟨rfl, rfl⟩)
         all_goals
          obtain ⟨h1, h2, h3⟩ := set_pays2 (n₀ := w.heap.size) (Bt := wr.heap.size + 2) (u := .int .i64 (min bst rx)) HHI.out hBox (by omega) (by omega) (by decide) rfl (pw_below_drewN (below_alloc (Below.refl _ _) (Obj.cells #[Value.int IntKind.i64 bst, Value.int IntKind.i64 rx] 3)) 1)
          exact ⟨h1, h2, (congrArg (fun z => At1 wl _ (wr.heap.size + 1) 3 (.int .i64 z)) HFO.out).mpr h3⟩
        case doneT =>
         rintro D ys W hD hys hI hDf
         have hbW : Below wr.heap.size wr W := HBL.out.trans (hI.lower (by omega) hBox)
         have hv : ys.foldl (fun m (q : {q : S25 // q ∈ movesOf a b i k}) => min m (restI a b q.1.f0 q.1.f1)) 0 = (movesOf a b i k).foldl (fun m q => min m (restI a b q.f0 q.f1)) 0 := (List.foldl_map (f := fun q : {q : S25 // q ∈ movesOf a b i k} => q.1) (g := fun m (q : S25) => min m (restI a b q.f0 q.f1))).symm.trans (congrArg (fun z : List S25 => z.foldl (fun m q => min m (restI a b q.f0 q.f1)) 0) hys)
         rw [hv] at hI
         have hre := rest_eq a b i k ⟨h0, hi.2⟩ ⟨h1, hk.2⟩
         rw [if_pos (by simp at hz; omega)] at hre
         generalize (movesOf a b i k).foldl (fun m q => min m (restI a b q.f0 q.f1)) 0 = best at hI hre
         clear hv hys hz
         have c3 : W.cell? ⟨w.heap.size + 1, 0, none⟩ = some (.map (some w.heap.size)) := (blk_cell (blk_below HS.out.out hbW) 0).trans rfl
         have hpW : W.heap[wr.heap.size]? = some (.cells #[.int .i64 i, .int .i64 k] 25 (0, 0)) := hI.blk HPL.out (by omega)
         have c60 : W.cell? ⟨wr.heap.size, 0, none⟩ = some (.int .i64 i) := (blk_cell hpW 0).trans rfl
         have c61 : W.cell? ⟨wr.heap.size, 1, none⟩ = some (.int .i64 k) := (blk_cell hpW 1).trans rfl
         have c7 := hI.cell.cell
         have KK := Aside0.mk (And.intro c3 (And.intro c60 (And.intro c61 c7)))
         have HBW2 := Aside0.mk hbW
         have HDF := Aside0.mk hDf
         have HTW := Aside0.mk (HT.out.below (HS.out.below.trans (hbW.mono HS.out.below.size)))
         have HRE := Aside0.mk hre
         clear hbW c3 hpW c60 c61 c7 hI hDf hre
         dsimp only
         go_wp2
         refine start_ (n := 8) (S := fun w' => w'.cell? ⟨w.heap.size + 1, 0, none⟩ = some (.map (some w.heap.size)) ∧ w'.cell? ⟨wr.heap.size, 0, none⟩ = some (.int .i64 i) ∧ w'.cell? ⟨wr.heap.size, 1, none⟩ = some (.int .i64 k) ∧ w'.cell? ⟨wr.heap.size + 1, 0, none⟩ = some (.int .i64 best)) (ds := [7]) #[false, false, false, false, false, false, false, false] (by kernel_rfl) rfl rfl KK.out (fun hHeld => ?_)
         refine with_tabW rests15_tab rests15_bits (fun HT_ HW_ => ?_)
         have hbb : Below W.heap.size W W.drew := pw_below_drewN (Below.refl _ _) 1
         replace HBW2 := Aside0.mk (below_then HBW2.out HBW2.out.size hbb)
         replace HTW := Aside0.mk (HTW.out.below hbb)
         replace HDF := Aside0.mk (blk_below2 hbb HDF.out)
         replace KK := Aside0.mk hHeld
         clear hbb
         generalize W.drew = w2 at HBW2 HTW HDF KK hHeld ⊢
         refine take_ (i := 0) (N := some 47) (v := ?_) (a' := ?_) #[true, false, false, false, false, false, false, false] rfl rfl (take_ofW HT_.out HW_.out (by kernel_rfl)) (fun _ _ _ h => h) (Or.inl ⟨by rfl, ?_⟩) hHeld ?_ ?_
         rotate_left
         · rintro w' ⟨s0, s1, s2, s3⟩
           go_simp
           with_reducible rfl
         rotate_left
         · simp only [Act.put, List.setIfInBounds_toArray, List.set_cons_zero, List.set_cons_succ, i64_w, i32_w]
           rfl
         refine take_ (i := 1) (N := some 48) (v := ?_) (a' := ?_) #[true, true, false, false, false, false, false, false] rfl rfl (take_ofW HT_.out HW_.out (by kernel_rfl)) (fun _ _ _ h => h) (Or.inl ⟨by rfl, ?_⟩) hHeld ?_ ?_
         rotate_left
         · rintro w' ⟨s0, s1, s2, s3⟩
           go_simp
           with_reducible rfl
         rotate_left
         · simp only [Act.put, List.setIfInBounds_toArray, List.set_cons_zero, List.set_cons_succ, i64_w, i32_w]
           rfl
         refine take_ (i := 2) (N := some 49) (v := ?_) (a' := ?_) #[true, true, true, false, false, false, false, false] rfl rfl (take_ofW HT_.out HW_.out (by kernel_rfl)) (fun _ _ _ h => h) (Or.inl ⟨by rfl, ?_⟩) hHeld ?_ ?_
         rotate_left
         · rintro w' ⟨s0, s1, s2, s3⟩
           go_simp
           with_reducible rfl
         rotate_left
         · simp only [Act.put, List.setIfInBounds_toArray, List.set_cons_zero, List.set_cons_succ, i64_w, i32_w]
           rfl
         refine take_ (i := 3) (N := some 50) (v := ?_) (a' := ?_) #[true, true, true, true, false, false, false, false] rfl rfl (take_ofW HT_.out HW_.out (by kernel_rfl)) (fun _ _ _ h => h) (Or.inl ⟨by rfl, ?_⟩) hHeld ?_ ?_
         rotate_left
         · rintro w' ⟨s0, s1, s2, s3⟩
           go_simp
           with_reducible rfl
         rotate_left
         · simp only [Act.put, List.setIfInBounds_toArray, List.set_cons_zero, List.set_cons_succ, i64_w, i32_w]
           rfl
         refine take_ (i := 4) (N := some 51) (v := ?_) (a' := ?_) #[true, true, true, true, true, false, false, false] rfl rfl (take_ofW HT_.out HW_.out (by kernel_rfl)) (fun _ _ _ h => h) (Or.inl ⟨by rfl, ?_⟩) hHeld ?_ ?_
         rotate_left
         · rintro w' ⟨s0, s1, s2, s3⟩
           go_simp
           with_reducible rfl
         rotate_left
         · simp only [Act.put, List.setIfInBounds_toArray, List.set_cons_zero, List.set_cons_succ, i64_w, i32_w]
           rfl
         refine one_ (i := 5) (N := some 52) #[true, true, true, true, true, true, false, false] rfl rfl (one_of HT_.out (by kernel_rfl)) (by decide) (fun K hK => ?_)
         refine goes_ Try.func47 (by kernel_rfl) rfl #[.pointer (some ⟨g, 0, none⟩), .agg #[.int .i64 i, .int .i64 k]] (by rfl) rfl rfl (by (try simp only [List.map_toArray, List.map_cons, List.map_nil]); first | done | rfl) ?_
         refine (far_calls g a b i k w2 HTW.out HR.out h0 hi.2 h1 hk.2).mono ?_
         rintro e w3 ⟨rfl, hbb⟩
         refine ⟨_, rfl, ?_⟩
         replace KK := Aside0.mk (And.intro (pw_cell_below hbb KK.out.1) (And.intro (pw_cell_below hbb KK.out.2.1) (And.intro (pw_cell_below hbb KK.out.2.2.1) (pw_cell_below hbb KK.out.2.2.2))))
         replace HBW2 := Aside0.mk (below_then HBW2.out HBW2.out.size hbb)
         replace HDF := Aside0.mk (blk_below2 hbb HDF.out)
         clear hbb
         refine hK.out _ _ KK.out (fun hHeld => ?_)
         clear hK K
         refine norm_ (a' := ?_) ?_ ?_
         rotate_left
         · show Act.put _ (some 52) _ = _
           simp only [Act.put, List.setIfInBounds_toArray, List.set_cons_zero, List.set_cons_succ, i64_w, i32_w]
           rfl
         refine pure_ (i := 6) (N := some 53) (v := .int .i64 (restI a b i k)) (a' := ?a6T) #[true, true, true, true, true, true, true, false] rfl rfl (any_of HT_.out (by kernel_rfl)) (fun _ _ _ h => h) (Or.inl ⟨by rfl, fun w' => ?hy6T⟩) ?ha6T ?hh6T
         case hy6T =>
          rw [HRE.out]
          go_simp
          rfl
         case ha6T =>
          simp only [Act.put, List.setIfInBounds_toArray, List.set_cons_zero, List.set_cons_succ, i64_w, i32_w]
          rfl
         obtain ⟨w4, hrun, hM4, hg4⟩ := (HMF.out.1.below HBW2.out).put und87 (by have := HMF.out.2.1; have := HR.out.ha; have := HR.out.hb; unfold maxLen; omega) (i := i) (k := k) ⟨⟨by omega, by have := HR.out.ha; omega⟩, ⟨by omega, by have := HR.out.hb; omega⟩⟩ (restI a b i k)
         refine last_ (i := 7) (N := none) #[true, true, true, true, true, true, true, true] rfl rfl (one_of HT_.out (by kernel_rfl)) (by decide) (fun K hK => ?_)
         refine map_step (by rfl) rfl 87 (.tmp 47) (.tmp 48) (.tmp 53) rfl hrun ?_
         refine hK.out _ _ ?_
         clear hK K hrun
         refine done_ (done_of HT_.out (by kernel_rfl)) ?_
         clear HT_ HW_ hHeld
         have e1 : wrap64 (k - 1) = k - 1 := w64' _ (by omega) (by have := HR.out.hb; omega)
         go_wp2
         try simp only [e1]
         refine HK2.out _ _ (Handed.intro ((k - 1) + 1).toNat (by omega) (HJ2.out _ _ _ ⟨k - 1, fun k => ([undef, _, undef, undef, undef, undef, _, _, _, _, _, _, _, _, _, _, _, _, _, _, _, _, _, _, _, _, _, _, _, _, _, _, _, _, _, _, _, _, _, _, _, _, _, _, _, _, _, _, _, _, _, _, _, _, _] : List Value).getD k undef, _, ⟨by omega, ⟨HS.out.next HBW2.out hM4 HMF.out.2.1 HMF.out.2.2 hg4 ⟨Nat.le_refl _, hbm⟩ ⟨hlo, by omega⟩ (by omega) HDF.out⟩⟩, rfl, rfl⟩))
       | false =>
        go_quiet (fail)
        go_wp2_with (go_at_call 52; refine (callsIn_wide.1 (moves_in 3 g i k _)).mono ?_; rintro e w2 ⟨rfl, rfl⟩)
        have hW0 : At1 w1 (w1.drewN nq) (wr.heap.size + 1) 3 (.int .i64 1000000) := (At1.start HBB.out).below (pw_below_drewN (Below.refl _ _) nq)
        have hWL := hW0.below (below_alloc (below_alloc (Below.refl _ _) (Obj.cells #[Value.pointer (some ⟨g, 0, none⟩)] 80)) (Obj.cells #[Value.int IntKind.i64 i, Value.int IntKind.i64 k] 25))
        have hBt := blk_alloc (blk_new (w1.drewN nq) (Obj.cells #[Value.pointer (some ⟨g, 0, none⟩)] 80)) (Obj.cells #[Value.int IntKind.i64 i, Value.int IntKind.i64 k] 25)
        have hBp := blk_new ((w1.drewN nq).alloc (Obj.cells #[Value.pointer (some ⟨g, 0, none⟩)] 80)) (Obj.cells #[Value.int IntKind.i64 i, Value.int IntKind.i64 k] 25)
        have hsl : (((w1.drewN nq).alloc (Obj.cells #[Value.pointer (some ⟨g, 0, none⟩)] 80)).alloc (Obj.cells #[Value.int IntKind.i64 i, Value.int IntKind.i64 k] 25)).heap.size = wr.heap.size + 4 := by simp; omega
        have hs0 : (w1.drewN nq).heap.size = wr.heap.size + 2 := by simp; omega
        rw [World.size_alloc] at hBp
        rw [hs0] at hBt hBp
        generalize (((w1.drewN nq).alloc (Obj.cells #[Value.pointer (some ⟨g, 0, none⟩)] 80)).alloc (Obj.cells #[Value.int IntKind.i64 i, Value.int IntKind.i64 k] 25)) = wl at hWL hBt hBp hsl ⊢
        clear hW0 hs0
        have hbl : Below wr.heap.size wr wl := HBW.out.trans (hWL.lower (by omega) (by omega))
        have hBO : Boxed wl (wr.heap.size + 1) 3 (.int .i64 1000000) := hWL.cell
        have HPL := Aside0.mk (hWL.blk HPB.out (by omega))
        obtain ⟨n, f, hM, hn, hf⟩ := HS.out.mp
        have HMF := Aside0.mk (And.intro hM (And.intro hn hf))
        have HBL := Aside0.mk hbl
        have HSL := Aside0.mk hsl
        have hlo : w.heap.size + 1 < wr.heap.size := blk_lt HS.out.out
        have hbm : w.heap.size < wr.heap.size := by omega
        clear hM hn hf p0 p1 q0 qf t2 t3 hWL
        have hBox : wr.heap.size + 1 < wl.heap.size := by omega
        refine (wpIn_wide (n := 3)).1 ?_
        refine wpIn_rangeFunc_ownH rfl (by omega) (gf := 72) (lb := #[.pointer (some ⟨wr.heap.size + 2 + 1, 0, none⟩), .pointer (some ⟨wr.heap.size + 2, 0, none⟩)]) rfl trivial (enters_of Try.func72 (by kernel_rfl) rfl)
         (moves_stops _ (by omega) (wr.heap.size + 2 + 1) (wr.heap.size + 2) (wr.heap.size + 1) g w.heap.size a b i k wl ((blk_cell hBp 0).trans rfl) ((blk_cell hBp 1).trans rfl) hBt (fun W' hb => HT.out.below ((HS.out.below.trans (hbl.mono HS.out.below.size)).trans hb)) (by omega) hBox ((ptr_boxed hBO).trans rfl) (by have := HR.out.ha; omega) (by have := HR.out.hb; omega)) KpM.trans' (KpM.putObj (by omega) hBox) (Below.refl _ _) (fun _ => rfl)
         (fun pre W => At1 wl W (wr.heap.size + 1) 3 (.int .i64 (pre.foldl (fun m (q : {q : S25 // q ∈ movesOf a b i k}) => min m (restI a b q.1.f0 q.1.f1)) 1000000)))
         (fun _ _ _ => False)
         (At1.own (fun pre : List {q : S25 // q ∈ movesOf a b i k} => (.int .i64 (pre.foldl (fun m (q : {q : S25 // q ∈ movesOf a b i k}) => min m (restI a b q.1.f0 q.1.f1)) 1000000))) hBox)
         (fun _ _ _ _ _ hs _ _ => hs)
         (At1.start hBO)
         (fun x a' W => ∃ (u : Nat → Value) (Bq : Nat), a' = { tmps := #[u 0, u 1, u 2, .pointer (some ⟨w.heap.size + 1, 0, none⟩), u 4, u 5, u 6, .pointer (some ⟨wr.heap.size + 1, 0, none⟩), .pointer (some ⟨Bq, 0, none⟩), u 9, u 10, u 11, u 12, u 13, u 14, u 15, u 16, u 17, u 18, u 19, u 20, u 21, u 22, u 23, u 24, u 25, u 26, u 27, u 28, u 29, u 30, u 31, u 32, u 33, u 34, u 35, u 36, u 37, u 38, u 39, u 40, u 41, u 42, u 43, u 44, u 45, u 46, u 47, u 48, u 49, u 50, u 51, u 52, u 53, u 54], defers := [] } ∧ W.heap[Bq]? = some (.cells #[.int .i64 x.1.f0, .int .i64 x.1.f1] 25 (0, 0)))
         (fun x a' _ X Y row hs hg hr => by
          obtain ⟨u, Bq, h1, h2⟩ := hs
          exact ⟨u, Bq, h1, (hg.block Bq (blk_lt2 h2) (fun e => by obtain ⟨_, o, ho, hc⟩ := hr Bq e.symm; rw [h2] at ho; cases ho; cases hc)).trans h2⟩) ?assignF ?bodyF ?doneF ?stopF
        case stopF =>
         rintro D c pre W _ _ h _
         exact h.elim
        case assignF =>
         intro l pre x W K hI hK
         gi_wp2
         obtain ⟨h1, h2, h3⟩ := quiet_pays (Bt := wr.heap.size + 2) (n₀ := w.heap.size) hI hBox (by omega) (below_alloc (Below.refl W.heap.size W) (Obj.cells #[Value.int IntKind.i64 x.1.f0, Value.int IntKind.i64 x.1.f1] 25))
         exact hK _ _ h1 h2 h3 ⟨fun k => ([_, _, _, undef, _, _, _, undef, undef, _, _, _, _, _, _, _, _, _, _, _, _, _, _, _, _, _, _, _, _, _, _, _, _, _, _, _, _, _, _, _, _, _, _, _, _, _, _, _, _, _, _, _, _, _, _] : List Value).getD k undef, _, rfl, blk_new _ _⟩
        case bodyF =>
         rintro l pre x a' W hl _ hI ⟨u, Bq, rfl, hq⟩ hlt
         have hbW : Below wr.heap.size wr W := HBL.out.trans (hI.lower (by omega) hBox)
         dsimp only
         have hx := (hasP_iff a b _ _).1 (moves_mem x.2).1
         have hin : inr x.1.f0 x.1.f1 := ⟨⟨by omega, by have := HR.out.ha; omega⟩, ⟨by omega, by have := HR.out.hb; omega⟩⟩
         have c3 : W.cell? ⟨w.heap.size + 1, 0, none⟩ = some (.map (some w.heap.size)) := (blk_cell (blk_below HS.out.out hbW) 0).trans rfl
         have c7 := hI.cell.cell
         have f7 := hI.cell.frozen
         have hl7 : wr.heap.size + 1 < W.heap.size := hI.cell.lt
         have c80 : W.cell? ⟨Bq, 0, none⟩ = some (.int .i64 x.1.f0) := (blk_cell hq 0).trans rfl
         have c81 : W.cell? ⟨Bq, 1, none⟩ = some (.int .i64 x.1.f1) := (blk_cell hq 1).trans rfl
         have hlk : (Instr.lookup 87 (.map (some w.heap.size)) (.agg #[.int .i64 x.1.f0, .int .i64 x.1.f1]) false).run Try.prog W.drew = .ok (.int .i64 ((f x.1.f0 x.1.f1).getD 0)) W.drew := MapF.look ((HMF.out.1.below hbW).same (w' := W.drew) rfl) und87 (zero3 _) hin
         have hfx := HMF.out.2.2.1 x.1.f0 x.1.f1 (moves_mem x.2).1 (by rcases (moves_mem x.2).2 with h | h | h <;> (have e0 := congrArg S25.f0 h; have e1 := congrArg S25.f1 h; simp only at e0 e1; omega))
         rw [hfx] at hlk
         have HHI := Aside0.mk hI
         have HIN := Aside0.mk (And.intro hx hin)
         have HBWW := Aside0.mk hbW
         clear hfx hx hin hI hbW
         generalize hfb : (pre.foldl (fun m (q : {q : S25 // q ∈ movesOf a b i k}) => min m (restI a b q.1.f0 q.1.f1)) 1000000) = bst at c7
         generalize hrx : restI a b x.1.f0 x.1.f1 = rx at hlk
         gi_wp2
         have hfold : (pre ++ [x]).foldl (fun m (q : {q : S25 // q ∈ movesOf a b i k}) => min m (restI a b q.1.f0 q.1.f1)) 1000000 = min bst rx := by rw [List.foldl_append, hfb, List.foldl_cons, List.foldl_nil, hrx]
         have HFO := Aside0.mk hfold
         clear hfold
         gi_region_with (refine ⟨trivial, ?_⟩; gi_at_call 65; refine (callsIn_round (lowest_calls W.heap.size bst rx _ (by simp) (by simp))).mono ?_; rintro e w2 ⟨rfl, rfl⟩)
         all_goals
          obtain ⟨h1, h2, h3⟩ := set_pays2 (n₀ := w.heap.size) (Bt := wr.heap.size + 2) (u := .int .i64 (min bst rx)) HHI.out hBox (by omega) (by omega) (by decide) rfl (pw_below_drewN (below_alloc (Below.refl _ _) (Obj.cells #[Value.int IntKind.i64 bst, Value.int IntKind.i64 rx] 3)) 1)
          exact ⟨h1, h2, (congrArg (fun z => At1 wl _ (wr.heap.size + 1) 3 (.int .i64 z)) HFO.out).mpr h3⟩
        case doneF =>
         rintro D ys W hD hys hI hDf
         have hbW : Below wr.heap.size wr W := HBL.out.trans (hI.lower (by omega) hBox)
         have hv : ys.foldl (fun m (q : {q : S25 // q ∈ movesOf a b i k}) => min m (restI a b q.1.f0 q.1.f1)) 1000000 = (movesOf a b i k).foldl (fun m q => min m (restI a b q.f0 q.f1)) 1000000 := (List.foldl_map (f := fun q : {q : S25 // q ∈ movesOf a b i k} => q.1) (g := fun m (q : S25) => min m (restI a b q.f0 q.f1))).symm.trans (congrArg (fun z : List S25 => z.foldl (fun m q => min m (restI a b q.f0 q.f1)) 1000000) hys)
         rw [hv] at hI
         have hre := rest_eq a b i k ⟨h0, hi.2⟩ ⟨h1, hk.2⟩
         rw [if_neg (by simp at hz; omega)] at hre
         generalize (movesOf a b i k).foldl (fun m q => min m (restI a b q.f0 q.f1)) 1000000 = best at hI hre
         clear hv hys hz
         have c3 : W.cell? ⟨w.heap.size + 1, 0, none⟩ = some (.map (some w.heap.size)) := (blk_cell (blk_below HS.out.out hbW) 0).trans rfl
         have hpW : W.heap[wr.heap.size]? = some (.cells #[.int .i64 i, .int .i64 k] 25 (0, 0)) := hI.blk HPL.out (by omega)
         have c60 : W.cell? ⟨wr.heap.size, 0, none⟩ = some (.int .i64 i) := (blk_cell hpW 0).trans rfl
         have c61 : W.cell? ⟨wr.heap.size, 1, none⟩ = some (.int .i64 k) := (blk_cell hpW 1).trans rfl
         have c7 := hI.cell.cell
         have KK := Aside0.mk (And.intro c3 (And.intro c60 (And.intro c61 c7)))
         have HBW2 := Aside0.mk hbW
         have HDF := Aside0.mk hDf
         have HTW := Aside0.mk (HT.out.below (HS.out.below.trans (hbW.mono HS.out.below.size)))
         have HRE := Aside0.mk hre
         clear hbW c3 hpW c60 c61 c7 hI hDf hre
         dsimp only
         go_wp2
         refine start_ (n := 8) (S := fun w' => w'.cell? ⟨w.heap.size + 1, 0, none⟩ = some (.map (some w.heap.size)) ∧ w'.cell? ⟨wr.heap.size, 0, none⟩ = some (.int .i64 i) ∧ w'.cell? ⟨wr.heap.size, 1, none⟩ = some (.int .i64 k) ∧ w'.cell? ⟨wr.heap.size + 1, 0, none⟩ = some (.int .i64 best)) (ds := [7]) #[false, false, false, false, false, false, false, false] (by kernel_rfl) rfl rfl KK.out (fun hHeld => ?_)
         refine with_tabW rests15_tab rests15_bits (fun HT_ HW_ => ?_)
         have hbb : Below W.heap.size W W.drew := pw_below_drewN (Below.refl _ _) 1
         replace HBW2 := Aside0.mk (below_then HBW2.out HBW2.out.size hbb)
         replace HTW := Aside0.mk (HTW.out.below hbb)
         replace HDF := Aside0.mk (blk_below2 hbb HDF.out)
         replace KK := Aside0.mk hHeld
         clear hbb
         generalize W.drew = w2 at HBW2 HTW HDF KK hHeld ⊢
         refine take_ (i := 0) (N := some 47) (v := ?_) (a' := ?_) #[true, false, false, false, false, false, false, false] rfl rfl (take_ofW HT_.out HW_.out (by kernel_rfl)) (fun _ _ _ h => h) (Or.inl ⟨by rfl, ?_⟩) hHeld ?_ ?_
         rotate_left
         · rintro w' ⟨s0, s1, s2, s3⟩
           go_simp
           with_reducible rfl
         rotate_left
         · simp only [Act.put, List.setIfInBounds_toArray, List.set_cons_zero, List.set_cons_succ, i64_w, i32_w]
           rfl
         refine take_ (i := 1) (N := some 48) (v := ?_) (a' := ?_) #[true, true, false, false, false, false, false, false] rfl rfl (take_ofW HT_.out HW_.out (by kernel_rfl)) (fun _ _ _ h => h) (Or.inl ⟨by rfl, ?_⟩) hHeld ?_ ?_
         rotate_left
         · rintro w' ⟨s0, s1, s2, s3⟩
           go_simp
           with_reducible rfl
         rotate_left
         · simp only [Act.put, List.setIfInBounds_toArray, List.set_cons_zero, List.set_cons_succ, i64_w, i32_w]
           rfl
         refine take_ (i := 2) (N := some 49) (v := ?_) (a' := ?_) #[true, true, true, false, false, false, false, false] rfl rfl (take_ofW HT_.out HW_.out (by kernel_rfl)) (fun _ _ _ h => h) (Or.inl ⟨by rfl, ?_⟩) hHeld ?_ ?_
         rotate_left
         · rintro w' ⟨s0, s1, s2, s3⟩
           go_simp
           with_reducible rfl
         rotate_left
         · simp only [Act.put, List.setIfInBounds_toArray, List.set_cons_zero, List.set_cons_succ, i64_w, i32_w]
           rfl
         refine take_ (i := 3) (N := some 50) (v := ?_) (a' := ?_) #[true, true, true, true, false, false, false, false] rfl rfl (take_ofW HT_.out HW_.out (by kernel_rfl)) (fun _ _ _ h => h) (Or.inl ⟨by rfl, ?_⟩) hHeld ?_ ?_
         rotate_left
         · rintro w' ⟨s0, s1, s2, s3⟩
           go_simp
           with_reducible rfl
         rotate_left
         · simp only [Act.put, List.setIfInBounds_toArray, List.set_cons_zero, List.set_cons_succ, i64_w, i32_w]
           rfl
         refine take_ (i := 4) (N := some 51) (v := ?_) (a' := ?_) #[true, true, true, true, true, false, false, false] rfl rfl (take_ofW HT_.out HW_.out (by kernel_rfl)) (fun _ _ _ h => h) (Or.inl ⟨by rfl, ?_⟩) hHeld ?_ ?_
         rotate_left
         · rintro w' ⟨s0, s1, s2, s3⟩
           go_simp
           with_reducible rfl
         rotate_left
         · simp only [Act.put, List.setIfInBounds_toArray, List.set_cons_zero, List.set_cons_succ, i64_w, i32_w]
           rfl
         refine one_ (i := 5) (N := some 52) #[true, true, true, true, true, true, false, false] rfl rfl (one_of HT_.out (by kernel_rfl)) (by decide) (fun K hK => ?_)
         refine goes_ Try.func47 (by kernel_rfl) rfl #[.pointer (some ⟨g, 0, none⟩), .agg #[.int .i64 i, .int .i64 k]] (by rfl) rfl rfl (by (try simp only [List.map_toArray, List.map_cons, List.map_nil]); first | done | rfl) ?_
         refine (far_calls g a b i k w2 HTW.out HR.out h0 hi.2 h1 hk.2).mono ?_
         rintro e w3 ⟨rfl, hbb⟩
         refine ⟨_, rfl, ?_⟩
         replace KK := Aside0.mk (And.intro (pw_cell_below hbb KK.out.1) (And.intro (pw_cell_below hbb KK.out.2.1) (And.intro (pw_cell_below hbb KK.out.2.2.1) (pw_cell_below hbb KK.out.2.2.2))))
         replace HBW2 := Aside0.mk (below_then HBW2.out HBW2.out.size hbb)
         replace HDF := Aside0.mk (blk_below2 hbb HDF.out)
         clear hbb
         refine hK.out _ _ KK.out (fun hHeld => ?_)
         clear hK K
         refine norm_ (a' := ?_) ?_ ?_
         rotate_left
         · show Act.put _ (some 52) _ = _
           simp only [Act.put, List.setIfInBounds_toArray, List.set_cons_zero, List.set_cons_succ, i64_w, i32_w]
           rfl
         refine pure_ (i := 6) (N := some 53) (v := .int .i64 (restI a b i k)) (a' := ?a6F) #[true, true, true, true, true, true, true, false] rfl rfl (any_of HT_.out (by kernel_rfl)) (fun _ _ _ h => h) (Or.inl ⟨by rfl, fun w' => ?hy6F⟩) ?ha6F ?hh6F
         case hy6F =>
          rw [HRE.out]
          go_simp
          rfl
         case ha6F =>
          simp only [Act.put, List.setIfInBounds_toArray, List.set_cons_zero, List.set_cons_succ, i64_w, i32_w]
          rfl
         obtain ⟨w4, hrun, hM4, hg4⟩ := (HMF.out.1.below HBW2.out).put und87 (by have := HMF.out.2.1; have := HR.out.ha; have := HR.out.hb; unfold maxLen; omega) (i := i) (k := k) ⟨⟨by omega, by have := HR.out.ha; omega⟩, ⟨by omega, by have := HR.out.hb; omega⟩⟩ (restI a b i k)
         refine last_ (i := 7) (N := none) #[true, true, true, true, true, true, true, true] rfl rfl (one_of HT_.out (by kernel_rfl)) (by decide) (fun K hK => ?_)
         refine map_step (by rfl) rfl 87 (.tmp 47) (.tmp 48) (.tmp 53) rfl hrun ?_
         refine hK.out _ _ ?_
         clear hK K hrun
         refine done_ (done_of HT_.out (by kernel_rfl)) ?_
         clear HT_ HW_ hHeld
         have e1 : wrap64 (k - 1) = k - 1 := w64' _ (by omega) (by have := HR.out.hb; omega)
         go_wp2
         try simp only [e1]
         refine HK2.out _ _ (Handed.intro ((k - 1) + 1).toNat (by omega) (HJ2.out _ _ _ ⟨k - 1, fun k => ([undef, _, undef, undef, undef, undef, _, _, _, _, _, _, _, _, _, _, _, _, _, _, _, _, _, _, _, _, _, _, _, _, _, _, _, _, _, _, _, _, _, _, _, _, _, _, _, _, _, _, _, _, _, _, _, _, _] : List Value).getD k undef, _, ⟨by omega, ⟨HS.out.next HBW2.out hM4 HMF.out.2.1 HMF.out.2.2 hg4 ⟨Nat.le_refl _, hbm⟩ ⟨hlo, by omega⟩ (by omega) HDF.out⟩⟩, rfl, rfl⟩))
     · have z1 : decide (k ≥ 0) = false := decide_eq_false h1
       obtain rfl : k = -1 := by omega
       have e1 : wrap64 (i - 1) = i - 1 := w64' _ (by omega) (by have := HR.out.ha; omega)
       go_wp2
       refine HK.out _ _ (Handed.intro ((i - 1) + 1).toNat (by omega) (HJ.out _ _ _ ⟨i - 1, fun k => ([undef, _, undef, undef, undef, _, _, _, _, _, _, _, _, _, _, _, _, _, _, _, _, _, _, _, _, _, _, _, _, _, _, _, _, _, _, _, _, _, _, _, _, _, _, _, _, _, _, _, _, _, _, _, _, _, _] : List Value).getD k undef, _, ⟨by omega, ⟨HS.out.row HR.out.hb.2⟩⟩, rfl, rfl⟩))
  · have z0 : decide (i ≥ 0) = false := decide_eq_false h0
    obtain rfl : i = -1 := by omega
    have c3 : wr.cell? ⟨w.heap.size + 1, 0, none⟩ = some (.map (some w.heap.size)) := (blk_cell HS.out.out 0).trans rfl
    go_wp2
    refine leaves_marks ds wr HS.out.marks (fun W' hb hk => ?_)
    obtain ⟨n, f, hM, hn, hf⟩ := HS.out.mp
    obtain ⟨es, ck, hob⟩ := hM.obj
    refine ⟨_, results_tmp rfl _ _ _, w.heap.size, rfl, n, f, hM.same ((hk _ _ hob (fun c e => by cases e)).trans hob.symm), Nat.le_refl _, fun x y hx => hf.1 x y hx ?_, HS.out.below.trans hb⟩
    have := (hasP_iff a b x y).1 hx
    omega

end Go.Proofs.Ytkocigldchiifaa.H
