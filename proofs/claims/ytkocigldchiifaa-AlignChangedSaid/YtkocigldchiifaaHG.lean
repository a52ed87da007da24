/- The queue of pairs. -/
import Derived.RangeFuncNested
import Derived.RangeFuncBound
import Derived.RangeFuncCalls
import Derived.RangeFuncLeaves
import Derived.RangeFuncBox
import Derived.RangeFuncWrites
import Derived.Shelf.Abstract
import Derived.Shelf.RegionOpen
import Derived.WalkKit
import Derived.OwnWalkIn
import Derived.TacticsInMore
import Derived.LoopNIn
import Derived.LoopIn
import Derived.Maps.AppendAt
import Derived.Carry
import Derived.WalkSmall
import Derived.Test.YtkocigldchiifaaH6
import Derived.Test.YtkocigldchiifaaHE
namespace Go.Proofs.Ytkocigldchiifaa.H
open Go.RowKit Go.Proofs.YtkocigldchiifaaW.PrintWords Go.Proofs.YtkocigldchiifaaW.PrintLast Go.Proofs.YtkocigldchiifaaW.PrintMore
open Go.Shelf Go.Proofs.Ytkocigldchiifaa.QA
attribute [local go_sem] Oper.semAt_some
set_option linter.unusedVariables false
set_option linter.unusedSimpArgs false



def push1_T : Bool × List (List Nat × List Nat) := (true, [([], []), ([], []), ([1], [1]), ([2], [2]), ([3], [3]), ([], []), ([5], [5]), ([4, 6], [4, 6]), ([0, 0, 1, 2, 3, 4, 5, 6, 7], [0]), ([8, 0, 1, 2, 3, 4, 5, 6, 7], [8]), ([9, 7, 7, 0, 1, 2, 3, 4, 5, 6, 7], [7, 9])])
def push1_B : List Nat := [0, 0, 2, 6, 14, 0, 32, 126, 255, 511, 1023]
theorem push1_tab : rtab .any (opsOf Try.f57 1) = push1_T := by kernel_rfl
theorem push1_bits : waitsOk push1_T.2 push1_B = true := by kernel_rfl

theorem tail_some {W : World} {base : Nat} {v : Value} {xs : List S25} (h : Tail W base v xs) (hx : xs ≠ []) : ∃ g off cap, v = .slice (some ⟨g, off, none⟩) xs.length cap := by
 rcases h with ⟨_, h⟩ | ⟨g, off, cap, cur, h, _⟩
 · exact absurd h hx
 · exact ⟨g, off, cap, h⟩
theorem step_tail {ops : Array Oper} {o : Oper} {a : Act} {K : Act → World → Prop} {Q : Exit → Act → World → Prop} {W : World} {base : Nat} (hw : Region.wanted o (yielded ops a.tmps) = true) (s x : Operand)
  (ho : o.op = .call { callee := .builtin .append, args := #[s, x], argTypes := #[38, 38] }) (hty : o.type = 38) (v : Value) (xs : List S25) (p : S25) (hs : a.eval s = v) (hx : a.eval x = .slice (some ⟨W.heap.size, 0, none⟩) 1 1)
  (ht : Tail W base v xs) (hb : base ≤ W.heap.size) (hl : xs.length < 100000)
  (h : ∀ v1 w1, Tail w1 base v1 (xs ++ [p]) → W.grownBy w1 v.ownBlock → (v1.ownBlock = v.ownBlock ∨ ∃ b, v1.ownBlock = some b ∧ W.heap.size ≤ b) → K (a.put o.dst v1) w1) :
  if Region.wanted o (yielded ops a.tmps) = true then Oper.wp Try.prog o a (W.alloc (.cells #[.int .i64 p.f0, .int .i64 p.f1] 25)) K Q else K (a.put o.dst undef) (W.alloc (.cells #[.int .i64 p.f0, .int .i64 p.f1] 25)) := by
 rw [if_pos hw]
 obtain ⟨v1, w1, hr, h1, h2, h3⟩ := run_append_tail (W.alloc (.cells #[.int .i64 p.f0, .int .i64 p.f1] 25)) base v xs p ⟨W.heap.size, 0, none⟩ 1 (ht.below (below_alloc (Below.refl _ _) _)) (by simp; omega) hl (by simpa using cell_two_new W (.int .i64 p.f0) (.int .i64 p.f1) 25)
 unfold Oper.wp execOp
 simp only [ho, hty, resolve, invoke, builtin, Sem.run_bind, Sem.run_pure, Result.andThen_ok, List.map_toArray, List.map_cons, List.map_nil, hs, hx, hr]
 refine h v1 w1 h1 (World.grownBy.trans (World.grownBy_alloc W _ _) h2) ?_
 rcases h3 with h3 | h3
 · exact .inl h3
 · exact .inr ⟨_, h3, by simp⟩
set_option maxRecDepth 100000 in
/-- (*queue).push -/
theorem push_calls (gq base : Nat) (v : Value) (xs : List S25) (x : S25) (w : World) (hq : w.heap[gq]? = some (.cells #[v] 102 (0, 0))) (ht : Tail w base v xs) (hb : base ≤ w.heap.size) (hl : xs.length < 100000) :
  Calls Try.prog 57 #[.pointer (some ⟨gq, 0, none⟩), .agg #[.int .i64 x.f0, .int .i64 x.f1]] w fun e w' => (∃ u, e = .returned u) ∧ ∃ v', w'.heap[gq]? = some (.cells #[v'] 102 (0, 0)) ∧ Tail w' base v' (xs ++ [x]) ∧ Fr w w' gq v.ownBlock ∧ (v'.ownBlock = v.ownBlock ∨ ∃ b, v'.ownBlock = some b ∧ w.heap.size ≤ b) := by
 have hu25 := Try.underlying25
 have hu102 := Try.underlying102
 have HQ0 := Aside0.mk hq
 have HT0 := Aside0.mk ht
 have hltq := blk_lt2 hq
 clear hq ht
 go_enter Try.func57, Try.ntmps57
 go_wp2
 have hbb : Below w.heap.size w ((w.alloc (.cells #[.int .i64 x.f0, .int .i64 x.f1] 25)).drew) := pw_below_drewN (below_alloc (Below.refl w.heap.size w) (.cells #[.int .i64 x.f0, .int .i64 x.f1] 25)) 1
 have hq1 := blk_below2 hbb HQ0.out
 have hx1 : ((w.alloc (.cells #[.int .i64 x.f0, .int .i64 x.f1] 25)).drew).heap[w.heap.size]? = some (.cells #[.int .i64 x.f0, .int .i64 x.f1] 25 (0, 0)) := blk_below (blk_new w (.cells #[.int .i64 x.f0, .int .i64 x.f1] 25)) (pw_below_drewN (Below.refl _ _) 1)
 have KK := Aside0.mk (And.intro ((blk_cell hq1 0).trans rfl : _ = some v) (And.intro ((blk_cell hx1 0).trans rfl : _ = some (Value.int .i64 x.f0)) ((blk_cell hx1 1).trans rfl : _ = some (Value.int .i64 x.f1))))
 have HNE := Aside0.mk (show some w.heap.size ≠ v.ownBlock from fun e => by have := (HT0.out.lt _ e.symm).2.1; omega)
 have HTL := Aside0.mk (HT0.out.below hbb)
 have hsz : w.heap.size + 1 = ((w.alloc (.cells #[.int .i64 x.f0, .int .i64 x.f1] 25)).drew).heap.size := by simp
 have HBB := Aside0.mk hbb
 have HQ1 := Aside0.mk hq1
 have HX1 := Aside0.mk hx1
 clear hbb hq1 hx1
 refine start_ (n := 11) (S := fun w' => w'.cell? ⟨gq, 0, none⟩ = some v ∧ w'.cell? ⟨w.heap.size, 0, none⟩ = some (.int .i64 x.f0) ∧ w'.cell? ⟨w.heap.size, 1, none⟩ = some (.int .i64 x.f1)) (ds := [10]) #[false, false, false, false, false, false, false, false, false, false, false] (by kernel_rfl) rfl rfl KK.out (fun hHeld => ?_)
 refine with_tabW push1_tab push1_bits (fun HT_ HW_ => ?_)
 generalize ((w.alloc (Obj.cells #[Value.int IntKind.i64 x.f0, Value.int IntKind.i64 x.f1] 25)).drew) = w1 at *
 refine take_ (i := 0) (N := some 4) (v := ?_) (a' := ?_) #[true, false, false, false, false, false, false, false, false, false, false] rfl rfl (take_ofW HT_.out HW_.out (by kernel_rfl)) (fun _ _ _ h => h) (Or.inl ⟨by rfl, ?_⟩) hHeld ?_ ?_
 rotate_left
 · rintro w' ⟨s0, s1, s2⟩
   go_simp
   with_reducible rfl
 rotate_left
 · simp only [Act.put, List.setIfInBounds_toArray, List.set_cons_zero, List.set_cons_succ, i64_w, i32_w]
   rfl
 refine take_ (i := 1) (N := some 5) (v := ?_) (a' := ?_) #[true, true, false, false, false, false, false, false, false, false, false] rfl rfl (take_ofW HT_.out HW_.out (by kernel_rfl)) (fun _ _ _ h => h) (Or.inl ⟨by rfl, ?_⟩) hHeld ?_ ?_
 rotate_left
 · rintro w' ⟨s0, s1, s2⟩
   go_simp
   with_reducible rfl
 rotate_left
 · simp only [Act.put, List.setIfInBounds_toArray, List.set_cons_zero, List.set_cons_succ, i64_w, i32_w]
   rfl
 refine take_ (i := 2) (N := some 6) (v := ?_) (a' := ?_) #[true, true, true, false, false, false, false, false, false, false, false] rfl rfl (take_ofW HT_.out HW_.out (by kernel_rfl)) (fun _ _ _ h => h) (Or.inl ⟨by rfl, ?_⟩) hHeld ?_ ?_
 rotate_left
 · rintro w' ⟨s0, s1, s2⟩
   go_simp
   with_reducible rfl
 rotate_left
 · simp only [Act.put, List.setIfInBounds_toArray, List.set_cons_zero, List.set_cons_succ, i64_w, i32_w]
   rfl
 refine take_ (i := 3) (N := some 7) (v := ?_) (a' := ?_) #[true, true, true, true, false, false, false, false, false, false, false] rfl rfl (take_ofW HT_.out HW_.out (by kernel_rfl)) (fun _ _ _ h => h) (Or.inl ⟨by rfl, ?_⟩) hHeld ?_ ?_
 rotate_left
 · rintro w' ⟨s0, s1, s2⟩
   go_simp
   with_reducible rfl
 rotate_left
 · simp only [Act.put, List.setIfInBounds_toArray, List.set_cons_zero, List.set_cons_succ, i64_w, i32_w]
   rfl
 refine take_ (i := 4) (N := some 8) (v := ?_) (a' := ?_) #[true, true, true, true, true, false, false, false, false, false, false] rfl rfl (take_ofW HT_.out HW_.out (by kernel_rfl)) (fun _ _ _ h => h) (Or.inl ⟨by rfl, ?_⟩) hHeld ?_ ?_
 rotate_left
 · rintro w' ⟨s0, s1, s2⟩
   go_simp
   with_reducible rfl
 rotate_left
 · simp only [Act.put, List.setIfInBounds_toArray, List.set_cons_zero, List.set_cons_succ, i64_w, i32_w]
   rfl
 refine take_ (i := 5) (N := some 9) (v := ?_) (a' := ?_) #[true, true, true, true, true, true, false, false, false, false, false] rfl rfl (take_ofW HT_.out HW_.out (by kernel_rfl)) (fun _ _ _ h => h) (Or.inl ⟨by rfl, ?_⟩) hHeld ?_ ?_
 rotate_left
 · rintro w' ⟨s0, s1, s2⟩
   go_simp
   with_reducible rfl
 rotate_left
 · simp only [Act.put, List.setIfInBounds_toArray, List.set_cons_zero, List.set_cons_succ, i64_w, i32_w]
   rfl
 refine one_ (i := 6) (N := some 10) #[true, true, true, true, true, true, true, false, false, false, false] rfl rfl (one_of HT_.out (by kernel_rfl)) (by decide) (fun K hK => ?_)
 refine value_ (v := .slice (some ⟨w1.heap.size, 0, none⟩) 1 1) (w1 := w1.alloc (.cells #[.int .i64 x.f0, .int .i64 x.f1] 25)) (by rfl) rfl (by go_simp) ?_
 have hba := below_alloc (Below.refl w1.heap.size w1) (.cells #[.int .i64 x.f0, .int .i64 x.f1] 25)
 have KA := Aside0.mk (And.intro (pw_cell_below hba KK.out.1) (And.intro (pw_cell_below hba KK.out.2.1) (pw_cell_below hba KK.out.2.2)))
 clear hba
 refine hK.out _ _ KA.out (fun hHeld => ?_)
 clear hK K
 refine norm_ (a' := ?_) ?_ ?_
 rotate_left
 · show Act.put _ (some 10) _ = _
   simp only [Act.put, List.setIfInBounds_toArray, List.set_cons_zero, List.set_cons_succ, i64_w, i32_w]
   rfl
 refine one_ (i := 7) (N := some 11) #[true, true, true, true, true, true, true, true, false, false, false] rfl rfl (one_of HT_.out (by kernel_rfl)) (by decide) (fun K hK => ?_)
 refine step_tail (W := w1) (base := base) (by rfl) (.tmp 8) (.tmp 10) rfl rfl v xs x rfl rfl HTL.out (by omega) (by omega) ?_
 intro v1 w2 ht1 hg1 hat1
 obtain ⟨g1, off1, cap1, rfl⟩ := tail_some ht1 (by simp)
 have hq2 : w2.heap[gq]? = some (.cells #[v] 102 (0, 0)) := (hg1.block gq (blk_lt2 HQ1.out) (HTL.out.ne HQ1.out (fun cur e => by cases e))).trans HQ1.out
 have hx2 : w2.heap[w.heap.size]? = some (.cells #[.int .i64 x.f0, .int .i64 x.f1] 25 (0, 0)) := (hg1.block _ (blk_lt2 HX1.out) HNE.out).trans HX1.out
 have hHeld2 := And.intro ((blk_cell hq2 0).trans rfl : w2.cell? ⟨gq, 0, none⟩ = some v) (And.intro ((blk_cell hx2 0).trans rfl : w2.cell? ⟨w.heap.size, 0, none⟩ = some (.int .i64 x.f0)) ((blk_cell hx2 1).trans rfl : w2.cell? ⟨w.heap.size, 1, none⟩ = some (.int .i64 x.f1)))
 have HQ2 := Aside0.mk hq2
 have HT2 := Aside0.mk (And.intro ht1 (And.intro hg1 hat1))
 clear ht1 hg1 hat1 hx2
 refine hK.out _ _ hHeld2 (fun hHeld => ?_)
 clear hK K hHeld2
 refine norm_ (a' := ?_) ?_ ?_
 rotate_left
 · show Act.put _ (some 11) _ = _
   simp only [Act.put, List.setIfInBounds_toArray, List.set_cons_zero, List.set_cons_succ, i64_w, i32_w]
   rfl
 refine take_ (i := 8) (N := some 12) (v := ?_) (a' := ?_) #[true, true, true, true, true, true, true, true, true, false, false] rfl rfl (take_ofW HT_.out HW_.out (by kernel_rfl)) (fun _ _ _ h => h) (Or.inl ⟨by rfl, ?_⟩) hHeld ?_ ?_
 rotate_left
 · rintro w' ⟨s0, s1, s2⟩
   go_simp
   with_reducible rfl
 rotate_left
 · simp only [Act.put, List.setIfInBounds_toArray, List.set_cons_zero, List.set_cons_succ, i64_w, i32_w]
   rfl
 refine take_ (i := 9) (N := some 13) (v := ?_) (a' := ?_) #[true, true, true, true, true, true, true, true, true, true, false] rfl rfl (take_ofW HT_.out HW_.out (by kernel_rfl)) (fun _ _ _ h => h) (Or.inl ⟨by rfl, ?_⟩) hHeld ?_ ?_
 rotate_left
 · rintro w' ⟨s0, s1, s2⟩
   go_simp
   with_reducible rfl
 rotate_left
 · simp only [Act.put, List.setIfInBounds_toArray, List.set_cons_zero, List.set_cons_succ, i64_w, i32_w]
   rfl
 have hfz := blk_frozen hq2 0
 have hcq := hHeld.1
 refine last_ (i := 10) (N := none) #[true, true, true, true, true, true, true, true, true, true, true] rfl rfl (one_of HT_.out (by kernel_rfl)) (by decide) (fun K hK => ?_)
 refine store_step (by rfl) rfl (w1 := w2.setCell ⟨gq, 0, none⟩ (.slice (some ⟨g1, off1, none⟩) (xs ++ [x]).length cap1)) (by go_simp) ?_
 refine hK.out _ _ ?_
 clear hK K
 refine done_ (done_of HT_.out (by kernel_rfl)) ?_
 go_end0
 refine ⟨⟨_, rfl⟩, .slice (some ⟨g1, off1, none⟩) (xs ++ [x]).length cap1, ?_, ?_, ?_, ?_⟩
 · simp [World.setCell, Array.getElem?_modify, HQ2.out]
 · refine HT2.out.1.kept (fun j cur hj hc => ?_)
   rw [Below.heap_setCell _ _ _ _ (fun e => by subst e; rw [HQ2.out] at hc; cases hc)]
   exact hc
 · have hg1 := HT2.out.2.1
   have hb := HBB.out
   refine ⟨hg1.os.trans hb.os, hg1.tape.trans hb.tape, hg1.output.trans hb.output, Nat.le_trans hb.size (Nat.le_trans hg1.size (by simp)), fun g hg hne hr => ?_⟩
   rw [Below.heap_setCell _ _ _ _ hne]
   exact (hg1.block g (Nat.lt_of_lt_of_le hg hb.size) hr).trans (hb.block g hg)
 · rcases HT2.out.2.2 with h | ⟨b, h1, h2⟩
   · exact .inl h
   · exact .inr ⟨b, h1, Nat.le_trans HBB.out.size h2⟩
theorem Tail.pop {W : World} {base g off n cap : Nat} {x : S25} {xs : List S25} (h : Tail W base (.slice (some ⟨g, off, none⟩) n cap) (x :: xs)) :
  1 ≤ cap ∧ Tail W base (.slice (some ⟨g, off + 2, none⟩) xs.length (cap - 1)) xs ∧ (cap = 1 → Tail W base (.slice (some ⟨g, off, none⟩) xs.length 0) xs) := by
 rcases h with ⟨h1, _⟩ | ⟨g', off', cap', cur, h1, h2, h3, h4, h5, h6, h7⟩
 · cases h1
 · cases h1
   rw [List.length_cons] at h4 h7
   have h8 : (cur.toList.drop (off + 2)).take (xs.length * 2) = cellsP xs := by
    have h9 := congrArg (List.drop 2) h7
    rw [List.drop_take, List.drop_drop, cellsP_cons, show (xs.length + 1) * 2 - 2 = xs.length * 2 by omega] at h9
    simpa using h9
   refine ⟨by omega, .inr ⟨g, off + 2, cap - 1, cur, rfl, h2, h3, by omega, by omega, by omega, h8⟩, fun e => ?_⟩
   have hn : xs = [] := List.eq_nil_of_length_eq_zero (by omega)
   subst hn
   exact .inr ⟨g, off, 0, cur, rfl, h2, h3, by simp, by omega, by omega, by simp [cellsP]⟩
set_option maxRecDepth 100000 in
/-- (*queue).pop: there is none. -/
theorem pop_none (gq : Nat) (A : Option Addr) (c : Nat) (w : World) (hq : w.heap[gq]? = some (.cells #[.slice A 0 c] 102 (0, 0))) :
  Calls Try.prog 58 #[.pointer (some ⟨gq, 0, none⟩)] w fun e w' => e = .returned (.tuple #[.agg #[.int .i64 0, .int .i64 0], .bool false]) ∧ Below w.heap.size w w' := by
 have hu25 := Try.underlying25
 have hu102 := Try.underlying102
 have cq : w.cell? ⟨gq, 0, none⟩ = some (.slice A 0 c) := (blk_cell hq 0).trans rfl
 have hltq := blk_lt2 hq
 have cq1 := ((below_alloc (Below.refl w.heap.size w) (.cells #[.int .i64 0, .int .i64 0] 25)).cell (p := ⟨gq, 0, none⟩) hltq).trans cq
 clear hq
 have hbb := below_alloc (below_alloc (Below.refl w.heap.size w) (.cells #[.int .i64 0, .int .i64 0] 25)) (.cells #[.int .i64 0, .int .i64 0] 25)
 have hbk := blk_alloc (blk_new w (.cells #[.int .i64 0, .int .i64 0] 25)) (.cells #[.int .i64 0, .int .i64 0] 25)
 have HB := Aside0.mk (And.intro hbb hbk)
 clear hbb hbk
 go_enter Try.func58, Try.ntmps58
 go_wp2
 refine bodyPost_ret (results_ct rfl _ _ w.heap.size 25 #[.int .i64 0, .int .i64 0] (0, 0) _ rfl HB.out.2 hu25 rfl (by rfl)) rfl ?_
 exact ⟨rfl, HB.out.1⟩
set_option maxRecDepth 100000 in
/-- (*queue).pop: the first one. -/
theorem pop_some (gq base g off cap : Nat) (x : S25) (xs : List S25) (w : World) (hq : w.heap[gq]? = some (.cells #[.slice (some ⟨g, off, none⟩) (xs.length + 1) cap] 102 (0, 0))) (ht : Tail w base (.slice (some ⟨g, off, none⟩) (xs.length + 1) cap) (x :: xs)) :
  Calls Try.prog 58 #[.pointer (some ⟨gq, 0, none⟩)] w fun e w' => e = .returned (.tuple #[.agg #[.int .i64 x.f0, .int .i64 x.f1], .bool true]) ∧ ∃ v', w'.heap[gq]? = some (.cells #[v'] 102 (0, 0)) ∧ Tail w' base v' xs ∧ Fr w w' gq none ∧ v'.ownBlock = some g := by
 have hu25 := Try.underlying25
 have hu102 := Try.underlying102
 have cq : w.cell? ⟨gq, 0, none⟩ = some (.slice (some ⟨g, off, none⟩) (xs.length + 1) cap) := (blk_cell hq 0).trans rfl
 have fq := blk_frozen hq 0
 have hltq := blk_lt2 hq
 have hx0 : w.cell? ⟨g, off, none⟩ = some (.int .i64 x.f0) := (Tail.cells ht).2 0 _ (by rw [cellsP_cons]; rfl)
 have hx1 : w.cell? ⟨g, off + 1, none⟩ = some (.int .i64 x.f1) := (Tail.cells ht).2 1 _ (by rw [cellsP_cons]; rfl)
 have hlg : g < w.heap.size := (ht.lt g rfl).2.1
 have HQ := Aside0.mk hq
 have HT := Aside0.mk ht
 clear hq ht
 have hfin : ∀ V : Value, Tail w base V xs → V.ownBlock = some g → ((((w.setCell ⟨gq, 0, none⟩ V).alloc (.cells #[.int .i64 x.f0, .int .i64 x.f1] 25)).alloc (.cells #[.int .i64 x.f0, .int .i64 x.f1] 25)).heap[w.heap.size]? = some (.cells #[.int .i64 x.f0, .int .i64 x.f1] 25 (0, 0))) ∧
   ∃ v', (((w.setCell ⟨gq, 0, none⟩ V).alloc (.cells #[.int .i64 x.f0, .int .i64 x.f1] 25)).alloc (.cells #[.int .i64 x.f0, .int .i64 x.f1] 25)).heap[gq]? = some (.cells #[v'] 102 (0, 0)) ∧ Tail (((w.setCell ⟨gq, 0, none⟩ V).alloc (.cells #[.int .i64 x.f0, .int .i64 x.f1] 25)).alloc (.cells #[.int .i64 x.f0, .int .i64 x.f1] 25)) base v' xs ∧ Fr w (((w.setCell ⟨gq, 0, none⟩ V).alloc (.cells #[.int .i64 x.f0, .int .i64 x.f1] 25)).alloc (.cells #[.int .i64 x.f0, .int .i64 x.f1] 25)) gq none ∧ v'.ownBlock = some g := fun V hV hg => by
  have hbb := below_alloc (below_alloc (Below.refl (w.setCell ⟨gq, 0, none⟩ V).heap.size (w.setCell ⟨gq, 0, none⟩ V)) (.cells #[.int .i64 x.f0, .int .i64 x.f1] 25)) (.cells #[.int .i64 x.f0, .int .i64 x.f1] 25)
  have hz : (w.setCell ⟨gq, 0, none⟩ V).heap.size = w.heap.size := by simp
  refine ⟨by simpa using blk_alloc (blk_new (w.setCell ⟨gq, 0, none⟩ V) (.cells #[.int .i64 x.f0, .int .i64 x.f1] 25)) (.cells #[.int .i64 x.f0, .int .i64 x.f1] 25), V, blk_below2 hbb (by simp [World.setCell, Array.getElem?_modify, HQ.out]), ?_, ⟨rfl, rfl, rfl, by simp; omega, fun k hk hne _ => ?_⟩, hg⟩
  · refine Tail.below (hV.kept fun j cur hj hc => ?_) hbb
    rw [Below.heap_setCell _ _ _ _ (fun e => by subst e; rw [HQ.out] at hc; cases hc)]
    exact hc
  · exact (hbb.block k (by omega)).trans (Below.heap_setCell _ _ _ _ hne)
 have HF := Aside0.mk hfin
 have HP := Aside0.mk (Tail.pop HT.out)
 have hcap : 1 ≤ cap := HP.out.1
 clear hfin
 go_enter Try.func58, Try.ntmps58
 go_wp2
 case inl =>
  have h1 := HF.out _ (HP.out.2.2 (by first | rfl | omega)) rfl
  refine bodyPost_ret (results_ct rfl _ _ w.heap.size 25 #[.int .i64 x.f0, .int .i64 x.f1] (0, 0) _ rfl h1.1 hu25 rfl (by rfl)) rfl ?_
  exact ⟨rfl, h1.2⟩
 case inr =>
  have h1 := HF.out _ HP.out.2.1 rfl
  refine bodyPost_ret (results_ct rfl _ _ w.heap.size 25 #[.int .i64 x.f0, .int .i64 x.f1] (0, 0) _ rfl h1.1 hu25 rfl (by rfl)) rfl ?_
  exact ⟨rfl, h1.2⟩

end Go.Proofs.Ytkocigldchiifaa.H
