/- Texts H6, H7 of this chapter, one behind the other. -/
import Derived.Carry
import Derived.LoopIn
import Derived.LoopNIn
import Derived.Maps.AppendAt
import Derived.OwnWalkIn
import Derived.RangeFuncBound
import Derived.RangeFuncBox
import Derived.RangeFuncCalls
import Derived.RangeFuncLeaves
import Derived.RangeFuncNested
import Derived.RangeFuncWrites
import Derived.Shelf.Abstract
import Derived.Shelf.RegionOpen
import Derived.TacticsInMore
import Derived.WalkKit
import Derived.Test.YthddeillkdediaaXB

/- (sample).beats. -/
namespace Go.Proofs.Ythddeillkdediaa.H
open Go.RowKit Go.Proofs.YthddeillkdediaaW.PrintWords Go.Proofs.YthddeillkdediaaW.PrintLast Go.Proofs.YthddeillkdediaaW.PrintMore
open Go.Shelf Go.Proofs.Ythddeillkdediaa.QA
attribute [local go_sem] Oper.semAt_some
set_option linter.unusedVariables false
set_option linter.unusedSimpArgs false

theorem KpP.own {n₀ B1 B2 : Nat} {W W2 W3 : World} {row : Option Nat} (h : KpP n₀ B1 B2 W W2) (hg : W2.grownBy W3 row) (hn : n₀ ≤ W.heap.size) (hr : ∀ r, row = some r → W.heap.size ≤ r) : KpP n₀ B1 B2 W W3 :=
 ⟨h.below.grown hg (Nat.le_trans hn h.below.size) (fun r e => Nat.le_trans hn (hr r e)),
  fun cs hb => (hg.block _ (blk_lt2 (h.b1 cs hb)) (fun e => by have := hr _ e.symm; have := blk_lt2 hb; omega)).trans (h.b1 cs hb),
  fun cs hb => (hg.block _ (blk_lt2 (h.b2 cs hb)) (fun e => by have := hr _ e.symm; have := blk_lt2 hb; omega)).trans (h.b2 cs hb)⟩
theorem score_calls (a b : Int) (w : World) : Calls Try.prog 76 #[.int .i64 a, .int .i64 b] w fun e w' => e = .returned (.int .i64 (scoreI a b)) ∧ Below w.heap.size w w' :=
 (hand_score.calls a b _ w (score_f a b)).mono fun _ _ ⟨h1, h2⟩ => ⟨h1, by obtain ⟨k, h3⟩ := h2.out; rw [h3]; exact pw_below_drewN (Below.refl _ _) k⟩
/-- The beats of the elements so far. -/
def partI (b pre : List Int) : Int := sumI (pre.map fun x => sumI (b.map fun y => scoreI x y))
theorem partI_in (b pre : List Int) (h : pre.length ≤ 1000) (hb : b.length ≤ 1000) : 0 ≤ partI b pre ∧ partI b pre ≤ 2000000 := by
 have h1 := sumI_in (pre.map fun x => sumI (b.map fun y => scoreI x y)) 0 2000 (fun z hz => by
  obtain ⟨x, _, rfl⟩ := List.mem_map.1 hz
  have := sumI_in (b.map fun y => scoreI x y) 0 2 (fun y hy => by obtain ⟨u, _, rfl⟩ := List.mem_map.1 hy; exact scoreI_in _ _)
  rw [List.length_map] at this
  omega)
 rw [List.length_map] at h1
 unfold partI
 omega
theorem rowI_in (x : Int) (b pre2 : List Int) (h : pre2.length ≤ 1000) : 0 ≤ sumI (pre2.map fun y => scoreI x y) ∧ sumI (pre2.map fun y => scoreI x y) ≤ 2000 := by
 have := sumI_in (pre2.map fun y => scoreI x y) 0 2 (fun y hy => by obtain ⟨u, _, rfl⟩ := List.mem_map.1 hy; exact scoreI_in _ _)
 rw [List.length_map] at this
 omega
theorem partI_snoc (b pre : List Int) (x : Int) : partI b (pre ++ [x]) = partI b pre + sumI (b.map fun y => scoreI x y) := by
 unfold partI
 rw [List.map_append, sumI_append]
 simp [sumI]
/-- What holds between the rounds of the outer loop. -/
structure Bo (w W : World) (B : Option Addr) (d : Nat) (b pre : List Int) : Prop where
 below : Below w.heap.size w W
 sum : Boxed W (w.heap.size + 1) 3 (.int .i64 (partI b pre))
 box : W.heap[w.heap.size]? = some (.cells #[.slice B b.length d] 71 (0, 0))
/-- And of the inner one: W0 is the world at its start. -/
structure Bi (w W0 W : World) (n B1 B2 Ba : Nat) (B : Option Addr) (d : Nat) (b pre : List Int) (x : Int) (pre2 : List Int) : Prop where
 kf : KeepsFrom n W0 W
 kp : KpP w.heap.size B1 B2 W0 W
 below : Below w.heap.size w W
 sum : Boxed W (w.heap.size + 1) 3 (.int .i64 (partI b pre + sumI (pre2.map fun y => scoreI x y)))
 box : W.heap[w.heap.size]? = some (.cells #[.slice B b.length d] 71 (0, 0))
 var : W.heap[Ba]? = some (.cells #[.int .i64 x] 3 (0, 0))
 ne : Ba ≠ w.heap.size + 1
theorem Bi.own {w W0 Wi X Y : World} {n B1 B2 Ba : Nat} {B : Option Addr} {d : Nat} {b pre pre2 : List Int} {x : Int} {row : Option Nat} (h : Bi w W0 X n B1 B2 Ba B d b pre x pre2) (hg : X.grownBy Y row) (hr : ∀ r, row = some r → Wi.heap.size ≤ r ∧ ∃ o : Obj, X.heap[r]? = some o ∧ o.isCells = false) (hn : W0.heap.size ≤ Wi.heap.size) (hw : w.heap.size ≤ W0.heap.size) : Bi w W0 Y n B1 B2 Ba B d b pre x pre2 := by
 have hk : ∀ (j : Nat) (o : Obj), X.heap[j]? = some o → o.isCells = true → Y.heap[j]? = some o := fun j o ho hc => (hg.block j (blk_lt2 ho) (fun e => by
  obtain ⟨h1, o', h2, h3⟩ := hr j e.symm
  rw [ho] at h2
  cases h2
  rw [hc] at h3; cases h3)).trans ho
 exact ⟨ownFrom_keepsFrom (β := Unit) hn () X Y row h.kf hg hr, h.kp.own hg hw (fun r e => Nat.le_trans hn (hr r e).1), h.below.grown hg h.below.size (fun r e => Nat.le_trans hw (Nat.le_trans hn (hr r e).1)), hk _ _ h.sum rfl, hk _ _ h.box rfl, hk _ _ h.var rfl, h.ne⟩
theorem Bi.quiet {w W0 X Y : World} {n B1 B2 Ba : Nat} {B : Option Addr} {d : Nat} {b pre pre2 : List Int} {x : Int} (h : Bi w W0 X n B1 B2 Ba B d b pre x pre2) (hb : Below X.heap.size X Y) (hw : w.heap.size ≤ X.heap.size) : Bi w W0 Y n B1 B2 Ba B d b pre x pre2 :=
 ⟨h.kf.trans ⟨hb.size, fun k o _ hk _ => blk_below2 hb hk⟩, h.kp.trans' (KpP.of_below hb hw), h.below.trans (hb.mono hw), blk_below2 hb h.sum, blk_below2 hb h.box, blk_below2 hb h.var, h.ne⟩
theorem Bi.add {w W0 X : World} {n B1 B2 Ba : Nat} {B : Option Addr} {d : Nat} {b pre pre2 : List Int} {x y : Int} (h : Bi w W0 X n B1 B2 Ba B d b pre x pre2) : Bi w W0 (X.setCell ⟨w.heap.size + 1, 0, none⟩ (.int .i64 (partI b pre + sumI (pre2.map fun y => scoreI x y) + scoreI x y))) n B1 B2 Ba B d b pre x (pre2 ++ [y]) := by
 refine ⟨h.kf.trans ((KeepsOthers.setCell _ _ _).from _), h.kp.trans' (KpP.set h.sum (by decide) (by decide) (Nat.le_succ _)), h.below.setCell (p := ⟨w.heap.size + 1, 0, none⟩) (Nat.le_succ _) _, ?_, ?_, ?_, h.ne⟩
 · rw [List.map_append, sumI_append, ← Int.add_assoc]
   simp only [List.map_cons, List.map_nil, sumI, Int.add_zero]
   exact h.sum.set _
 · rw [Below.heap_setCell _ _ _ _ (show w.heap.size ≠ w.heap.size + 1 by omega)]; exact h.box
 · rw [Below.heap_setCell _ _ _ _ h.ne]; exact h.var
def bt6_T : Bool × List (List Nat × List Nat) := (true, [([], []), ([], []), ([], []), ([1, 2], [1, 2]), ([0, 3], [0, 3]), ([4, 3, 0, 1, 2, 3, 4], [4])])
def bt6_B : List Nat := [0, 0, 0, 6, 15, 31]
theorem bt6_tab : rtab .any (opsOf Try.f45 6) = bt6_T := by kernel_rfl
theorem bt6_bits : waitsOk bt6_T.2 bt6_B = true := by kernel_rfl
set_option maxHeartbeats 4000000 in
set_option maxRecDepth 100000 in
/-- (hand.sample).beats -/
theorem beats_calls (A : Option Addr) (c : Nat) (a : List Int) (B : Option Addr) (d : Nat) (b : List Int) (w : World) (hr : Kd.C (Kd.int .i64) w A a.length a) (hc : a.length ≤ c) (hl : a.length ≤ 1000) (hr2 : Kd.C (Kd.int .i64) w B b.length b) (hc2 : b.length ≤ d) (hl2 : b.length ≤ 1000) :
  Calls Try.prog 45 #[.slice A a.length c, .slice B b.length d] w fun e w' => e = .returned (.int .i64 (beatsI a b)) ∧ Below w.heap.size w w' := by
 refine calls_of_wp_marks Try.func45 rfl ?_
 simp only [Try.ntmps45, List.size_toArray, List.length_cons, List.length_nil, Nat.reduceAdd, Nat.reduceSub, Array.replicate_succ, Array.replicate_zero, List.push_toArray, List.append_toArray, List.nil_append, List.cons_append]
 go_wp2_with (go_at_call 71; refine (pool_calls _ _ _ _).mono ?_; rintro e w' ⟨rfl, rfl⟩)
 have s1 : (w.alloc (.cells #[.slice B b.length d] 71)).heap.size = w.heap.size + 1 := by simp
 have s2 : ((w.alloc (.cells #[.slice B b.length d] 71)).alloc (.cells #[.int .i64 0] 3)).heap.size = w.heap.size + 1 + 1 := by simp
 have s3 : (((w.alloc (.cells #[.slice B b.length d] 71)).alloc (.cells #[.int .i64 0] 3)).alloc (.cells #[.slice A a.length c] 71)).heap.size = w.heap.size + 1 + 1 + 1 := by simp
 have b0 := blk_new w (.cells #[.slice B b.length d] 71)
 have b1 := blk_new (w.alloc (.cells #[.slice B b.length d] 71)) (.cells #[.int .i64 0] 3)
 have b2 := blk_new ((w.alloc (.cells #[.slice B b.length d] 71)).alloc (.cells #[.int .i64 0] 3)) (.cells #[.slice A a.length c] 71)
 have b3 := blk_new (((w.alloc (.cells #[.slice B b.length d] 71)).alloc (.cells #[.int .i64 0] 3)).alloc (.cells #[.slice A a.length c] 71)) (.cells #[.slice (some ⟨w.heap.size + 1 + 1, 0, none⟩) 1 1] 113)
 rw [s1] at b1
 rw [s2] at b2
 rw [s3] at b3
 have c0 := blk_alloc (blk_alloc (blk_alloc b0 (.cells #[.int .i64 0] 3)) (.cells #[.slice A a.length c] 71)) (.cells #[.slice (some ⟨w.heap.size + 1 + 1, 0, none⟩) 1 1] 113)
 have c1 := blk_alloc (blk_alloc b1 (.cells #[.slice A a.length c] 71)) (.cells #[.slice (some ⟨w.heap.size + 1 + 1, 0, none⟩) 1 1] 113)
 have c2 := blk_alloc b2 (.cells #[.slice (some ⟨w.heap.size + 1 + 1, 0, none⟩) 1 1] 113)
 have hb0 := below_alloc (below_alloc (below_alloc (below_alloc (Below.refl w.heap.size w) (.cells #[.slice B b.length d] 71)) (.cells #[.int .i64 0] 3)) (.cells #[.slice A a.length c] 71)) (.cells #[.slice (some ⟨w.heap.size + 1 + 1, 0, none⟩) 1 1] 113)
 have s4 : ((((w.alloc (.cells #[.slice B b.length d] 71)).alloc (.cells #[.int .i64 0] 3)).alloc (.cells #[.slice A a.length c] 71)).alloc (.cells #[.slice (some ⟨w.heap.size + 1 + 1, 0, none⟩) 1 1] 113)).heap.size = w.heap.size + 1 + 1 + 1 + 1 := by simp
 clear s1 s2 s3 b0 b1 b2
 generalize (((w.alloc (.cells #[.slice B b.length d] 71)).alloc (.cells #[.int .i64 0] 3)).alloc (.cells #[.slice A a.length c] 71)).alloc (.cells #[.slice (some ⟨w.heap.size + 1 + 1, 0, none⟩) 1 1] 113) = wl at b3 c0 c1 c2 hb0 s4 ⊢
 have HS := Aside0.mk (show Bo w wl B d b [] from ⟨hb0, c1, c0⟩)
 have HR := Aside0.mk hr
 have HR2 := Aside0.mk hr2
 have HB0 := Aside0.mk hb0
 clear hb0 hr hr2 c1 c0
 refine (wpIn_wide (n := 9)).1 ?_
 refine wpIn_rangeFunc_ownH rfl (by omega) (gf := 84) (lb := #[.pointer (some ⟨w.heap.size + 1 + 1 + 1, 0, none⟩)]) rfl trivial (enters_of Try.func84 (by kernel_rfl) rfl)
  (pool_stops _ (by omega) (w.heap.size + 1 + 1 + 1) (w.heap.size + 1 + 1) w.heap.size 1 #[.slice A a.length c] [a] wl b3 c2 (fun W' hb => Rw.one (Kd.C_below HR.out (HB0.out.trans hb))) (by omega) (by simp) (by simp; omega)) KpP.trans' (KpP.putObj (by omega)) (Below.refl _ _) (fun _ => rfl)
  (fun pre W => Bo w W B d b pre)
  (fun _ _ _ => False)
  (fun pre X Y row hs hg hr => by
   have hk : ∀ (j : Nat) (o : Obj), X.heap[j]? = some o → o.isCells = true → Y.heap[j]? = some o := fun j o ho hc => (hg.block j (blk_lt2 ho) (fun e => by
    obtain ⟨h1, o', h2, h3⟩ := hr j e.symm
    rw [ho] at h2
    cases h2
    rw [hc] at h3; cases h3)).trans ho
   exact ⟨hs.below.grown hg hs.below.size (fun r e => by have := (hr r e).1; omega), hk _ _ hs.sum rfl, hk _ _ hs.box rfl⟩)
  (fun _ _ _ _ _ hs _ _ => hs)
  HS.out
  (fun x a' W => ∃ (u : Nat → Value) (Ba : Nat), a' = { tmps := #[u 0, u 1, u 2, .pointer (some ⟨w.heap.size, 0, none⟩), u 4, .pointer (some ⟨w.heap.size + 1, 0, none⟩), .pointer (some ⟨Ba, 0, none⟩), u 7, u 8, u 9, u 10, u 11, u 12, u 13, u 14, u 15, u 16, u 17, u 18, u 19, u 20, u 21], defers := [] } ∧ W.heap[Ba]? = some (.cells #[.int .i64 x] 3 (0, 0)) ∧ Ba ≠ w.heap.size + 1)
  (fun x a' _ X Y row hs hg hr => by
   obtain ⟨u, Ba, h1, h2, h3⟩ := hs
   exact ⟨u, Ba, h1, (hg.block Ba (blk_lt2 h2) (fun e => by obtain ⟨_, o, ho, hc⟩ := hr Ba e.symm; rw [h2] at ho; cases ho; cases hc)).trans h2, h3⟩) ?assign ?body ?done ?stop
 case stop =>
  rintro D c pre W _ _ h _
  exact h.elim
 case assign =>
  intro lr pre x W K hI hK
  gi_wp2
  have hb := below_alloc (Below.refl W.heap.size W) (Obj.cells #[Value.int IntKind.i64 x] 3)
  refine hK _ _ ⟨hb.size, fun k o _ hk _ => blk_below2 hb hk⟩ (KpP.of_below hb hI.below.size) ⟨hI.below.trans (hb.mono hI.below.size), blk_below2 hb hI.sum, blk_below2 hb hI.box⟩ ⟨fun k => ([_, _, _, undef, _, undef, undef, _, _, _, _, _, _, _, _, _, _, _, _, _, _, _] : List Value).getD k undef, W.heap.size, rfl, blk_new _ _, ?_⟩
  have := blk_lt2 hI.sum
  omega
 case body =>
  rintro lr pre x a' W hlr ⟨rr, hrr⟩ hI ⟨u, Ba, rfl, hva, hne⟩ hlt
  have c0 : W.cell? ⟨w.heap.size, 0, none⟩ = some (.slice B b.length d) := (blk_cell hI.box 0).trans rfl
  have HI := Aside0.mk hI
  have HRR := Aside0.mk hrr
  have HVA := Aside0.mk hva
  have HNE := Aside0.mk hne
  have HLT := Aside0.mk (show pre.length ≤ 1000 by simp at hlt; omega)
  clear hI hrr hva hne hlt
  gi_wp2_with (refine ⟨trivial, ?_⟩; gi_at_call 71; refine (callsIn_round (pool_calls _ _ _ _)).mono ?_; rintro e w' ⟨rfl, rfl⟩)
  have s1 : (W.alloc (.cells #[.slice B b.length d] 71)).heap.size = W.heap.size + 1 := by simp
  have d2 := blk_alloc (blk_new W (.cells #[.slice B b.length d] 71)) (.cells #[.slice (some ⟨W.heap.size, 0, none⟩) 1 1] 113)
  have d3 := blk_new (W.alloc (.cells #[.slice B b.length d] 71)) (.cells #[.slice (some ⟨W.heap.size, 0, none⟩) 1 1] 113)
  rw [s1] at d3
  have hbi := below_alloc (below_alloc (Below.refl W.heap.size W) (.cells #[.slice B b.length d] 71)) (.cells #[.slice (some ⟨W.heap.size, 0, none⟩) 1 1] 113)
  generalize (W.alloc (.cells #[.slice B b.length d] 71)).alloc (.cells #[.slice (some ⟨W.heap.size, 0, none⟩) 1 1] 113) = wi at d2 d3 hbi ⊢
  have hwW := HI.out.below.size
  have hWi := hbi.size
  have hI0 : Bi w W wi wl.heap.size (w.heap.size + 1 + 1 + 1) (w.heap.size + 1 + 1) Ba B d b pre x [] := by
   refine ⟨⟨hbi.size, fun k o _ hk _ => blk_below2 hbi hk⟩, KpP.of_below hbi hwW, HI.out.below.trans (hbi.mono hwW), ?_, blk_below2 hbi HI.out.box, blk_below2 hbi HVA.out, HNE.out⟩
   rw [show partI b pre + sumI (([] : List Int).map fun y => scoreI x y) = partI b pre by simp [sumI]]
   exact blk_below2 hbi HI.out.sum
  refine wpIn_rangeFunc_ownN (l₀ := lr) rfl (blk_below2 hbi HRR.out) (by omega) (gf := 84) (lb := #[.pointer (some ⟨W.heap.size + 1, 0, none⟩)]) rfl trivial (enters_of Try.func84 (by kernel_rfl) rfl)
   (SeqStopsK.inRound _ (pool_stops _ (by omega) (W.heap.size + 1) W.heap.size w.heap.size 1 #[.slice B b.length d] [b] wi d3 d2 (fun W' hb => Rw.one (Kd.C_below HR2.out ((HI.out.below.trans (hbi.mono hwW)).trans hb))) (by omega) (by simp) (by simp; omega))) KpP.trans' (KpP.putObj (by omega)) (Below.refl _ _) (fun _ => rfl)
   (fun pre2 W2 => Bi w W W2 wl.heap.size (w.heap.size + 1 + 1 + 1) (w.heap.size + 1 + 1) Ba B d b pre x pre2)
   (fun _ _ _ => False)
   (fun pre2 X Y row hs hg hr => hs.own (Wi := wi) hg hr hWi hwW)
   (fun _ _ _ _ _ hs _ _ => hs)
   hI0
   (fun y a' W2 => ∃ (u : Nat → Value), a' = { tmps := #[u 0, u 1, u 2, .pointer (some ⟨w.heap.size, 0, none⟩), u 4, .pointer (some ⟨w.heap.size + 1, 0, none⟩), .pointer (some ⟨Ba, 0, none⟩), .int .i64 y, u 8, u 9, u 10, u 11, u 12, u 13, u 14, u 15, u 16, u 17, u 18, u 19, u 20, u 21], defers := [] })
   (fun y a' _ X Y row hs hg hr => hs) ?assign2 ?body2 ?done2 ?stop2
  case stop2 =>
   rintro c pre2 W2 _ h
   exact h.elim
  case assign2 =>
   intro lr2 pre2 y W2 K hI2 hK
   gi_wp2
   exact hK _ _ ⟨Nat.le_refl _, fun k o _ hk _ => hk⟩ (KpP.of_below (Below.refl _ _) hI2.below.size) hI2 ⟨fun k => ([_, _, _, undef, _, undef, undef, undef, _, _, _, _, _, _, _, _, _, _, _, _, _, _] : List Value).getD k undef, rfl⟩
  case body2 =>
   rintro lr2 pre2 y a' W2 hlr2 _ hI2 ⟨u2, rfl⟩ hlt2
   have hp2 : pre2.length ≤ 1000 := by simp at hlt2; omega
   have z1 := partI_in b pre HLT.out hl2
   have z2 := rowI_in x b pre2 hp2
   have z3 := scoreI_in x y
   obtain ⟨s, hs⟩ : ∃ s, partI b pre + sumI (pre2.map fun y => scoreI x y) = s := ⟨_, rfl⟩
   have e1 : wrap64 (s + scoreI x y) = s + scoreI x y := w64' _ (by omega) (by omega)
   have HS := Aside0.mk hs
   have HI2 := Aside0.mk hI2
   have KK := Aside0.mk (And.intro (show W2.drew.cell? ⟨w.heap.size + 1, 0, none⟩ = some (.int .i64 s) from (hI2.sum.cell.trans (by rw [hs]))) (show W2.drew.cell? ⟨Ba, 0, none⟩ = some (.int .i64 x) from (blk_cell hI2.var 0).trans rfl))
   clear hI2 hs z1 z2 z3 hlt2 hp2
   gi_wp2
   refine startR_ (n := 6) (S := fun w' => w'.cell? ⟨w.heap.size + 1, 0, none⟩ = some (.int .i64 s) ∧ w'.cell? ⟨Ba, 0, none⟩ = some (.int .i64 x)) (ds := [5]) #[false, false, false, false, false, false] (by kernel_rfl) rfl rfl (by kernel_rfl) (fun ⟨_, _, h⟩ => h) KK.out (fun hHeld => ?_)
   refine with_tabW bt6_tab bt6_bits (fun HT_ HW_ => ?_)
   refine take_ (i := 0) (N := some 16) (v := ?_) (a' := ?_) #[true, false, false, false, false, false] rfl rfl (take_ofW HT_.out HW_.out (by kernel_rfl)) (fun _ _ _ h => h) (Or.inl ⟨by rfl, ?_⟩) hHeld ?_ ?_
   rotate_left
   · rintro w' ⟨s0, s1⟩
     go_simp
     with_reducible rfl
   rotate_left
   · simp only [Act.put, List.setIfInBounds_toArray, List.set_cons_zero, List.set_cons_succ, i64_w, i32_w]
     rfl
   refine take_ (i := 1) (N := some 17) (v := ?_) (a' := ?_) #[true, true, false, false, false, false] rfl rfl (take_ofW HT_.out HW_.out (by kernel_rfl)) (fun _ _ _ h => h) (Or.inl ⟨by rfl, ?_⟩) hHeld ?_ ?_
   rotate_left
   · rintro w' ⟨s0, s1⟩
     go_simp
     with_reducible rfl
   rotate_left
   · simp only [Act.put, List.setIfInBounds_toArray, List.set_cons_zero, List.set_cons_succ, i64_w, i32_w]
     rfl
   refine take_ (i := 2) (N := some 18) (v := ?_) (a' := ?_) #[true, true, true, false, false, false] rfl rfl (take_ofW HT_.out HW_.out (by kernel_rfl)) (fun _ _ _ h => h) (Or.inl ⟨by rfl, ?_⟩) hHeld ?_ ?_
   rotate_left
   · rintro w' ⟨s0, s1⟩
     go_simp
     with_reducible rfl
   rotate_left
   · simp only [Act.put, List.setIfInBounds_toArray, List.set_cons_zero, List.set_cons_succ, i64_w, i32_w]
     rfl
   refine one_ (i := 3) (N := some 19) #[true, true, true, true, false, false] rfl rfl (one_of HT_.out (by kernel_rfl)) (by decide) (fun K hK => ?_)
   refine goes_ Try.func76 (by kernel_rfl) rfl #[.int .i64 x, .int .i64 y] (by rfl) rfl rfl (by (try simp only [List.map_toArray, List.map_cons, List.map_nil]); first | done | rfl) ?_
   refine (score_calls x y W2.drew).mono ?_
   rintro e w3 ⟨rfl, hbb⟩
   refine ⟨_, rfl, ?_⟩
   replace KK := Aside0.mk (And.intro (pw_cell_below hbb KK.out.1) (pw_cell_below hbb KK.out.2))
   have hbW : Below W2.heap.size W2 w3 := (pw_below_drewN (Below.refl W2.heap.size W2) 1 : Below W2.heap.size W2 W2.drew).trans hbb
   have HI3 := Aside0.mk (HI2.out.quiet hbW HI2.out.below.size)
   have HBW := Aside0.mk hbW
   clear hbb hbW
   refine hK.out _ _ KK.out (fun hHeld => ?_)
   clear hK K
   refine norm_ (a' := ?_) ?_ ?_
   rotate_left
   · show Act.put _ (some 19) _ = _
     simp only [Act.put, List.setIfInBounds_toArray, List.set_cons_zero, List.set_cons_succ, i64_w, i32_w]
     rfl
   refine take_ (i := 4) (N := some 20) (v := ?_) (a' := ?_) #[true, true, true, true, true, false] rfl rfl (take_ofW HT_.out HW_.out (by kernel_rfl)) (fun _ _ _ h => h) (Or.inl ⟨by rfl, ?_⟩) hHeld ?_ ?_
   rotate_left
   · rintro w' ⟨s0, s1⟩
     go_simp
     with_reducible rfl
   rotate_left
   · simp only [Act.put, List.setIfInBounds_toArray, List.set_cons_zero, List.set_cons_succ, i64_w, i32_w]
     rfl
   have hfz := HI3.out.sum.frozen
   have hcq := HI3.out.sum.cell
   rw [HS.out] at hcq
   refine last_ (i := 5) (N := none) #[true, true, true, true, true, true] rfl rfl (one_of HT_.out (by kernel_rfl)) (by decide) (fun K hK => ?_)
   refine store_step (by rfl) rfl (w1 := w3.setCell ⟨w.heap.size + 1, 0, none⟩ (.int .i64 (s + scoreI x y))) (by go_simp) ?_
   refine hK.out _ _ ?_
   clear hK K
   refine done_ (done_of HT_.out (by kernel_rfl)) ?_
   gi_wp2
   have ha := HI3.out.add (y := y)
   rw [HS.out] at ha
   refine ⟨(KeepsFrom.mk HBW.out.size (fun k o _ hk _ => blk_below2 HBW.out hk)).trans ((KeepsOthers.setCell _ _ _).from _), (KpP.of_below HBW.out HI2.out.below.size).trans' (KpP.set HI3.out.sum (by decide) (by decide) (Nat.le_succ _)), ha⟩
  case done2 =>
   rintro ys W2 hys hI2
   refine ⟨hI2.kf, hI2.kp, hI2.below, ?_, hI2.box⟩
   rw [partI_snoc]
   have := hI2.sum
   rw [hys] at this
   simpa using this
 case done =>
  rintro D ys W hD hys hI hDf
  have c5 := hI.sum.cell
  have HE := Aside0.mk (show partI b ys = beatsI a b by rw [hys]; simp [partI, beatsI])
  have HC := Aside0.mk hI.below
  have HD := Aside0.mk hDf
  clear hI
  rw [HE.out] at c5
  dsimp only
  go_wp2
  exact leaves_marks (n₀ := w.heap.size) [{ target := .collected D, args := #[] }] W ⟨⟨D, rfl, by omega, HD.out, fun d' hd => by cases hd⟩, trivial⟩ (fun W' hb hk => ⟨_, results_tmp rfl _ _ _, rfl, HC.out.trans hb⟩)

end Go.Proofs.Ythddeillkdediaa.H

/- hand.both, Ranks, Beats. -/
namespace Go.Proofs.Ythddeillkdediaa.H
open Go.RowKit Go.Proofs.YthddeillkdediaaW.PrintWords Go.Proofs.YthddeillkdediaaW.PrintLast Go.Proofs.YthddeillkdediaaW.PrintMore
open Go.Shelf Go.Proofs.Ythddeillkdediaa.QA
set_option linter.unusedVariables false
set_option linter.unusedSimpArgs false

theorem or_f (a b : Int) : api_Errno.f 5 [a, b] = some (if a = 0 then b else a) := by
 have r0 : rd [a, b] 0 = a := rfl
 have r1 : rd [a, b] 1 = b := rfl
 have w1 : wrap64 (0 + 1) = 1 := by unfold wrap64; omega
 have w2 : wrap64 (1 + 1) = 2 := by unfold wrap64; omega
 unfold api_Errno.f api_Errno.l0
 simp only [List.length_cons, List.length_nil]
 rw [if_pos (by decide), if_pos (by decide), if_pos (by decide), r0]
 by_cases h : a = 0
 · rw [if_pos h, if_pos h, w1]
   unfold api_Errno.l0
   simp only [List.length_cons, List.length_nil]
   rw [if_pos (by decide), if_pos (by decide), if_pos (by decide), r1]
   by_cases h2 : b = 0
   · rw [if_pos h2, w2]
     unfold api_Errno.l0
     simp only [List.length_cons, List.length_nil]
     rw [if_neg (by decide), h2]
   · rw [if_neg h2]
 · rw [if_neg h, if_neg h]
theorem two_ints {w : World} {x y : Value} (t : TypeId) (a b : Int) (hx : x = .int .i64 a) (hy : y = .int .i64 b) : Kd.C (Kd.int .i64) (w.alloc (.cells #[x, y] t)) (some ⟨w.heap.size, 0, none⟩) 2 [a, b] := by
 subst hx hy
 have hb := blk_new w (.cells #[.int .i64 a, .int .i64 b] t)
 refine ⟨rfl, by decide, fun _ => ⟨_, rfl, fun j p hj => ?_⟩⟩
 match j, hj with
 | 0, hj =>
  obtain rfl := Option.some.inj hj
  exact ⟨[.int .i64 a], rfl, rfl, fun i u hu => by
   match i, hu with
   | 0, hu => rw [← Option.some.inj hu]; exact (blk_cell hb 0).trans rfl⟩
 | 1, hj =>
  obtain rfl := Option.some.inj hj
  exact ⟨[.int .i64 b], rfl, rfl, fun i u hu => by
   match i, hu with
   | 0, hu => rw [← Option.some.inj hu]; exact (blk_cell hb 1).trans rfl⟩
/-- The error of two samples. -/
def bothI (a b : List Int) : Int := if chk a = 0 then chk b else chk a
/-- hand.both, of checks. -/
theorem both_calls (A : Option Addr) (c : Nat) (a : List Int) (B : Option Addr) (d : Nat) (b : List Int) (w : World) (hr : Kd.C (Kd.int .i64) w A a.length a) (hc : a.length ≤ c) (hr2 : Kd.C (Kd.int .i64) w B b.length b) (hc2 : b.length ≤ d) :
  Calls Try.prog 43 #[.slice A a.length c, .slice B b.length d, .func (.func 44) #[] #[]] w fun e w' => e = .returned (.int .i64 (bothI a b)) ∧ Below w.heap.size w w' := by
 have HR := Aside0.mk hr
 have HR2 := Aside0.mk hr2
 clear hr hr2
 have HE := Aside0.mk (show api_Errno.f 5 [chk a, chk b] = some (bothI a b) from or_f _ _)
 generalize hp : chk a = p at HE
 generalize hq : chk b = q at HE
 generalize bothI a b = r at HE ⊢
 go_enter Try.func43, Try.ntmps43
 go_wp2_with fail
 refine (sample_check A c a _ HR.out hc).mono ?_
 rintro e w1 ⟨rfl, hb1⟩
 rw [hp]
 have HB1 := Aside0.mk hb1
 clear hb1
 go_wp2_with fail
 refine (sample_check B d b _ (Kd.C_below HR2.out HB1.out) hc2).mono ?_
 rintro e w2 ⟨rfl, hb2⟩
 rw [hq]
 have HB2 := Aside0.mk (below_then HB1.out HB1.out.size hb2)
 clear hb2 HB1
 go_wp2_with fail
 have hor := api_Errno.calls 5 (some ⟨w2.heap.size, 0, none⟩) 2 [p, q] r (w2.alloc (.cells #[.int .i64 p, .int .i64 q] 24)) (two_ints 24 p q rfl rfl) (Nat.le_refl 2) HE.out
 refine hor.mono ?_
 rintro e w3 ⟨rfl, hd⟩
 have hb := hd.below
 go_wp2
 go_ret
 exact ⟨rfl, below_then (HB2.out.trans ((below_alloc (Below.refl w2.heap.size w2) _).mono HB2.out.size)) (by have := HB2.out.size; simp; omega) hb⟩
def hand_Ranks.f (l : List Int) : Option (List Int × Int) := some (if chk l = 0 then (ranksI l, 0) else ([], chk l))
def hand_Beats.f (a b : List Int) : Option (Int × Int) := some (if bothI a b = 0 then (beatsI a b, 0) else (0, bothI a b))
theorem chk_len {l : List Int} (h : chk l = 0) : 1 ≤ l.length ∧ l.length ≤ 16 := by
 unfold chk at h
 split at h
 · cases h
 · split at h
   · cases h
   · omega
theorem chk_good {l : List Int} (h : chk l = 0) : ∀ x ∈ l, -100000 ≤ x ∧ x ≤ 100000 := by
 unfold chk at h
 split at h
 · cases h
 · split at h
   · cases h
   · split at h
     · cases h
     · rename_i h3
       intro x hx
       have h4 : l.any (fun x => !goodB x) = false := by simpa using h3
       have h5 := (List.any_eq_false.1 h4) x hx
       simp [goodB, isIn] at h5
       exact h5
theorem both_ok {a b : List Int} (h : bothI a b = 0) : chk a = 0 ∧ chk b = 0 := by
 unfold bothI at h
 split at h
 · exact ⟨by assumption, h⟩
 · exact absurd h (by assumption)
theorem hand_Ranks.calls (A : Option Addr) (c : Nat) (l : List Int) (r1 : List Int) (r2 : Int) (w : World) (hr : Kd.C (Kd.int .i64) w A l.length l) (hc : l.length ≤ c) (h : hand_Ranks.f l = some (r1, r2)) :
  Calls Try.prog 15 #[.slice A l.length c] w fun e w' => ∃ v, e = .returned (.tuple #[v, .int .i64 r2]) ∧ Kd.R (Kd.int .i64) 3 w' w.heap.size (fun _ => True) v r1 ∧ Below w.heap.size w w' := by
 have HR := Aside0.mk hr
 have h := Option.some.inj h
 by_cases h0 : chk l = 0
 · rw [if_pos h0] at h
   obtain ⟨rfl, rfl⟩ := Prod.mk.inj h
   have HL := Aside0.mk (chk_len h0)
   clear hr h
   go_enter Try.func15, Try.ntmps15
   go_wp2_with fail
   refine (hand_Check.calls A c l 0 _ HR.out hc (congrArg some h0)).mono ?_
   rintro e w1 ⟨rfl, hb1⟩
   have HB1 := Aside0.mk hb1
   clear hb1 h0
   go_wp2_with fail
   refine (ranks_calls A c l _ (Kd.C_below HR.out HB1.out) hc (by have := HL.out; omega)).mono ?_
   rintro e w2 ⟨v, rfl, hv, hb2⟩
   have HV := Aside0.mk (And.intro hv hb2)
   clear hv hb2
   go_wp2
   go_ret2
   exact ⟨v, rfl, Kd.R_lower HV.out.1 HB1.out.size, below_then HB1.out HB1.out.size HV.out.2⟩
 · rw [if_neg h0] at h
   obtain ⟨rfl, rfl⟩ := Prod.mk.inj h
   have z1 : (chk l == 0) = false := beq_false_of_ne h0
   have z2 : (chk l != 0) = true := by simp [h0]
   have z3 : decide (chk l = 0) = false := decide_eq_false h0
   clear hr h
   generalize hq : chk l = q at z1 z2 z3 h0 ⊢
   go_enter Try.func15, Try.ntmps15
   go_wp2_with fail
   refine (hand_Check.calls A c l q _ HR.out hc (congrArg some hq)).mono ?_
   rintro e w1 ⟨rfl, hb1⟩
   have HB1 := Aside0.mk hb1
   clear hb1
   go_wp2
   go_ret2
   exact ⟨_, rfl, Kd.R_nil _ _ _ _ _, HB1.out⟩
theorem hand_Beats.calls (A : Option Addr) (c : Nat) (a : List Int) (B : Option Addr) (d : Nat) (b : List Int) (r1 r2 : Int) (w : World) (hr : Kd.C (Kd.int .i64) w A a.length a) (hc : a.length ≤ c) (hr2 : Kd.C (Kd.int .i64) w B b.length b) (hc2 : b.length ≤ d) (h : hand_Beats.f a b = some (r1, r2)) :
  Calls Try.prog 17 #[.slice A a.length c, .slice B b.length d] w fun e w' => e = .returned (.tuple #[.int .i64 r1, .int .i64 r2]) ∧ Below w.heap.size w w' := by
 have HR := Aside0.mk hr
 have HR2 := Aside0.mk hr2
 have hcall := both_calls A c a B d b w hr hc hr2 hc2
 have h := Option.some.inj h
 by_cases h0 : bothI a b = 0
 · rw [if_pos h0] at h
   obtain ⟨rfl, rfl⟩ := Prod.mk.inj h
   have HL := Aside0.mk (And.intro (chk_len (both_ok h0).1) (chk_len (both_ok h0).2))
   rw [h0] at hcall
   clear hr hr2 h h0
   generalize hbe : beatsI a b = be
   go_enter Try.func17, Try.ntmps17
   go_wp2_with fail
   refine hcall.mono ?_
   clear hcall
   rintro e w1 ⟨rfl, hb1⟩
   have HB1 := Aside0.mk hb1
   clear hb1
   go_wp2_with fail
   refine (beats_calls A c a B d b _ (Kd.C_below HR.out HB1.out) hc (by have := HL.out; omega) (Kd.C_below HR2.out HB1.out) hc2 (by have := HL.out; omega)).mono ?_
   rintro e w2 ⟨rfl, hb2⟩
   have HB2 := Aside0.mk hb2
   clear hb2
   rw [hbe]
   go_wp2
   go_ret2
   exact ⟨rfl, below_then HB1.out HB1.out.size HB2.out⟩
 · rw [if_neg h0] at h
   obtain ⟨rfl, rfl⟩ := Prod.mk.inj h
   have z1 : (bothI a b == 0) = false := beq_false_of_ne h0
   have z2 : (bothI a b != 0) = true := by simp [h0]
   have z3 : decide (bothI a b = 0) = false := decide_eq_false h0
   clear hr hr2 h
   generalize bothI a b = q at z1 z2 z3 h0 hcall ⊢
   go_enter Try.func17, Try.ntmps17
   go_wp2_with fail
   refine hcall.mono ?_
   clear hcall
   rintro e w1 ⟨rfl, hb1⟩
   have HB1 := Aside0.mk hb1
   clear hb1
   go_wp2
   go_ret2
   exact ⟨rfl, HB1.out⟩

end Go.Proofs.Ythddeillkdediaa.H
