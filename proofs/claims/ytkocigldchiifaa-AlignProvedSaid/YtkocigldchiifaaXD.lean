/- Texts H9, HB of this chapter, one behind the other. -/
import Derived.Carry
import Derived.Deep.LoopGhost
import Derived.LoopIn
import Derived.LoopNIn
import Derived.Maps.AppendAt
import Derived.OwnWalkIn
import Derived.RangeFuncBound
import Derived.RangeFuncBox
import Derived.RangeFuncCalls
import Derived.RangeFuncLeaves
import Derived.RangeFuncNested
import Derived.RangeFuncWrites
import Derived.Shelf.Abstract
import Derived.Shelf.RegionOpen
import Derived.TacticsInMore
import Derived.WalkKit
import Derived.WalkSmall
import Derived.Test.YtkocigldchiifaaXB

/- align.Walk. -/
namespace Go.Proofs.Ytkocigldchiifaa.H
open Go.RowKit Go.Proofs.YtkocigldchiifaaW.PrintWords Go.Proofs.YtkocigldchiifaaW.PrintLast Go.Proofs.YtkocigldchiifaaW.PrintMore
open Go.Shelf Go.Proofs.Ytkocigldchiifaa.QA
attribute [local go_sem] Oper.semAt_some
set_option linter.unusedVariables false
set_option linter.unusedSimpArgs false


/-- Of what lay in wl nothing has turned but block B, which holds the cells cs. -/
structure AtC (wl W : World) (B : Nat) (t : TypeId) (cs : Array Value) : Prop where
 low : Below 0 wl W
 but : ∀ g, g < wl.heap.size → g ≠ B → W.heap[g]? = wl.heap[g]?
 cell : W.heap[B]? = some (.cells cs t (0, 0))
theorem AtC.own {wl : World} {B : Nat} {t : TypeId} {β : Type} (F : β → Array Value) (hB : B < wl.heap.size) : OwnFrom wl.heap.size (fun (s : β) W => AtC wl W B t (F s)) := fun s X Y row hs hg hr =>
 ⟨hs.low.grown hg (Nat.zero_le _) (fun k e => Nat.zero_le _), fun g hlt hne => (hg.block g (Nat.lt_of_lt_of_le hlt hs.low.size) (fun e => by have := (hr g e.symm).1; omega)).trans (hs.but g hlt hne),
  (hg.block B (blk_lt2 hs.cell) (fun e => by have := (hr B e.symm).1; omega)).trans hs.cell⟩
theorem AtC.store2 {wl W : World} {B : Nat} {t : TypeId} {y0 y1 z0 z1 : Value} (h : Below wl.heap.size wl W) (hat : W.heap[B]? = some (.cells #[y0, y1] t (0, 0))) : AtC wl (((W.setCell ⟨B, 0, none⟩ z0).setCell ⟨B, 1, none⟩ z1).drew) B t #[z0, z1] := by
 have hlt := blk_lt2 hat
 refine ⟨?_, fun g hg hne => ?_, ?_⟩
 · exact pw_below_drewN ((h.mono (Nat.zero_le _)).trans (((Below.refl 0 W).setCell (p := ⟨B, 0, none⟩) (Nat.zero_le _) z0).setCell (p := ⟨B, 1, none⟩) (Nat.zero_le _) z1)) 1
 · show ((W.setCell ⟨B, 0, none⟩ z0).setCell ⟨B, 1, none⟩ z1).heap[g]? = _
   rw [Below.heap_setCell _ _ _ _ hne, Below.heap_setCell _ _ _ _ hne]
   exact h.block g hg
 · show ((W.setCell ⟨B, 0, none⟩ z0).setCell ⟨B, 1, none⟩ z1).heap[B]? = _
   simp [World.setCell, Array.getElem?_modify, hat]
def cellsW (xs : List S25) : List Value := xs.flatMap fun x => [.int .i64 x.f0, .int .i64 x.f1]
/-- The state of the walk's loop: base world w, at the pair (i, k), with xs behind it. -/
structure Wk (w W : World) (bm Bat : Nat) (a b : List S59) (v : Value) (xs : List S25) (ds : List Deferred) (i k : Int) : Prop where
 below : Below w.heap.size w W
 box : W.heap[w.heap.size]? = some (.cells #[.map (some bm)] 87 (0, 0))
 at_ : W.heap[Bat]? = some (.cells #[.int .i64 i, .int .i64 k] 25 (0, 0))
 low : w.heap.size < Bat
 row : W.ownsRow (w.heap.size + 1) 25 2 v xs.length (cellsW xs)
 ne : some Bat ≠ v.ownBlock
 marks : Marks w.heap.size ds W
 val : (0 ≤ i ∧ i < a.length) ∧ (0 ≤ k ∧ k < b.length)
 fits : restI a b i k ≤ restI a b 0 0
 walk : ∃ n, xs ++ walkFrom a b n i k = walkOf a b ∧ ((a.length : Int) - i) + ((b.length : Int) - k) ≤ n ∧ xs.length + n ≤ a.length + b.length + 1
def lenOf : Value → Nat
 | .slice _ n _ => n
 | _ => 0
theorem own_one {W : World} {B base : Nat} {i k : Int} (h : W.heap[B]? = some (.cells #[.int .i64 i, .int .i64 k] 25 (0, 0))) (hb : base ≤ B) : W.ownsRow base 25 2 (.slice (some ⟨B, 0, none⟩) 1 1) 1 (cellsW [⟨i, k⟩]) := by
 refine ⟨by simp [cellsW], .inr ⟨B, 1, #[.int .i64 i, .int .i64 k], rfl, hb, h, ?_⟩⟩
 simp [cellsW, maxLen]
theorem lenOf_own {W : World} {base : Nat} {e : TypeId} {sz n : Nat} {v : Value} {xs : List Value} (h : W.ownsRow base e sz v n xs) : lenOf v = n := by
 rcases h.2 with ⟨rfl, rfl⟩ | ⟨g, cap, cur, rfl, _⟩ <;> rfl
theorem own_lt {W : World} {base : Nat} {e : TypeId} {sz n : Nat} {v : Value} {xs : List Value} (h : W.ownsRow base e sz v n xs) (j : Nat) (hj : v.ownBlock = some j) : j < W.heap.size := by
 rcases h.2 with ⟨rfl, _⟩ | ⟨g, cap, cur, rfl, _, hg, _⟩
 · simp [Value.ownBlock] at hj
 · obtain rfl : g = j := by simpa [Value.ownBlock] using hj
   exact blk_lt2 hg
theorem own_def {W : World} {base : Nat} {e : TypeId} {sz n : Nat} {v : Value} {xs : List Value} (h : W.ownsRow base e sz v n xs) {j : Nat} (hj : v.ownBlock = some j) {l : Option (List Deferred)} (hl : W.heap[j]? = some (.deferred l)) : False := by
 rcases h.2 with ⟨rfl, _⟩ | ⟨g, cap, cur, rfl, _, hg, _⟩
 · simp [Value.ownBlock] at hj
 · obtain rfl : g = j := by simpa [Value.ownBlock] using hj
   rw [hg] at hl; cases hl
theorem own_hk {W W' : World} {base : Nat} {e : TypeId} {sz n : Nat} {v : Value} {xs : List Value} (h : W.ownsRow base e sz v n xs) (hk : ∀ (g : Nat) (o : Obj), W.heap[g]? = some o → (∀ c, o ≠ Obj.deferred c) → W'.heap[g]? = some o) : W'.ownsRow base e sz v n xs := by
 obtain ⟨h1, h2⟩ := h
 refine ⟨h1, ?_⟩
 rcases h2 with h2 | ⟨g, cap, cur, h3, h4, h5, h6⟩
 · exact .inl h2
 · exact .inr ⟨g, cap, cur, h3, h4, hk g _ h5 (fun c e => by cases e), h6⟩
theorem reps_W (w : World) (base : Nat) (ok : Nat → Prop) (xs : List S25) : Reps (k25.M w base ok) 2 xs (cellsW xs) := by
 have h : ∀ (ys zs : List S25), Reps (k25.M w base ok) 2 ys (cellsW ys) → Reps (k25.M w base ok) 2 (ys ++ zs) (cellsW (ys ++ zs)) := fun ys zs => by
  induction zs generalizing ys with
  | nil => intro h; simpa using h
  | cons z zs ih =>
   intro h
   have := ih (ys ++ [z]) (by
    have h2 := h.snoc (p := z) (c := [.int .i64 z.f0, .int .i64 z.f1]) (k25_mkM w base ok z) rfl
    simpa [cellsW] using h2)
   simpa using this
 simpa using h [] xs (Reps.none _ _)
theorem walk_end {a b : List S59} {n : Nat} {i k : Int} (h : i = (a.length : Int) - 1 ∧ k = (b.length : Int) - 1) : walkFrom a b n i k = [] := by
 cases n with
 | zero => rfl
 | succ n => unfold walkFrom; rw [if_pos h]
attribute [local go_sem high] eqA25
set_option maxRecDepth 100000 in
set_option maxHeartbeats 4000000 in
theorem walk_ok (A0 : Option Addr) (c0 : Nat) (a : List S59) (A1 : Option Addr) (c1 : Nat) (b : List S59) (w0 : World) (hr0 : Kd.C k59 w0 A0 a.length a) (hc0 : a.length ≤ c0) (hr1 : Kd.C k59 w0 A1 b.length b) (hc1 : b.length ≤ c1) (he : align_Check.f a b = some 0) :
  Calls Try.prog 21 #[.slice A0 a.length c0, .slice A1 b.length c1] w0 fun e w' => ∃ v, e = .returned (.tuple #[v, .int .i64 0]) ∧ Kd.R k25 25 w' w0.heap.size (fun _ => True) v (walkOf a b) ∧ Below w0.heap.size w0 w' := by
 have hu25 := Try.underlying25
 have HR := Aside0.mk (rolls_of he)
 have HR0 := Aside0.mk hr0
 have HR1 := Aside0.mk hr1
 have HE := Aside0.mk he
 have HC := Aside0.mk (And.intro hc0 hc1)
 clear hr0 hr1 he hc0 hc1
 refine calls_of_wp_marks Try.func21 rfl ?_
 simp only [Try.ntmps21, List.size_toArray, List.length_cons, List.length_nil, Nat.reduceAdd, Nat.reduceSub, Array.replicate_succ, Array.replicate_zero, List.push_toArray, List.append_toArray, List.nil_append, List.cons_append]
 go_wp2_with fail
 refine (newTable_ok A0 c0 a A1 c1 b _ HR0.out HC.out.1 HR1.out HC.out.2 HE.out).mono ?_
 rintro e w1 ⟨g, rfl, hT, _, hb⟩
 have HB0 := Aside0.mk hb
 have HT := Aside0.mk hT
 clear hb hT
 go_wp2_with fail
 refine (rests_calls g a b _ HT.out HR.out).mono ?_
 rintro e w ⟨bm, nm, f, rfl, hM, _, hf, hb⟩
 have HM := Aside0.mk (And.intro hM hf)
 replace HT := Aside0.mk (HT.out.below hb)
 replace HB0 := Aside0.mk (below_then HB0.out HB0.out.size hb)
 clear hM hf hb
 go_wp2
 refine wp_loop_ghost_k (fun m a' w' => ∃ (i k : Int) (v : Value) (Bat : Nat) (xs : List S25) (u : Nat → Value) (ds : List Deferred), (Aside0 (Wk w w' bm Bat a b v xs ds i k)) ∧ a' = { tmps := #[u 0, u 1, u 2, u 3, u 4, u 5, .pointer (some ⟨g, 0, none⟩), u 7, .pointer (some ⟨w.heap.size, 0, none⟩), v, .pointer (some ⟨Bat, 0, none⟩), u 11, u 12, u 13, u 14, u 15, u 16, u 17, u 18, u 19, u 20, u 21, u 22, u 23, u 24, u 25, u 26, u 27, u 28, u 29, u 30, u 31, u 32, u 33, u 34, u 35, u 36, u 37, u 38, u 39, u 40, u 41, u 42, u 43, u 44, u 45, u 46, u 47, u 48, u 49], defers := ds } ∧ m = 100 - xs.length) 99 ?start ?round
 case start =>
  refine ⟨0, 0, .slice (some ⟨w.heap.size + 1, 0, none⟩) 1 1, w.heap.size + 1 + 1, [⟨0, 0⟩], fun k => ([_, _, _, _, _, _, undef, _, undef, undef, undef, _, _, _, _, _, _, _, _, _, _, _, _, _, _, _, _, _, _, _, _, _, _, _, _, _, _, _, _, _, _, _, _, _, _, _, _, _, _, _] : List Value).getD k undef, _, ⟨?_⟩, rfl, rfl⟩
  have b1 := blk_alloc (blk_alloc (blk_new w (Obj.cells #[Value.map (some bm)] 87)) (Obj.cells #[Value.int IntKind.i64 0, Value.int IntKind.i64 0] 25)) (Obj.cells #[Value.int IntKind.i64 0, Value.int IntKind.i64 0] 25)
  have b2 := blk_alloc (blk_new (w.alloc (Obj.cells #[Value.map (some bm)] 87)) (Obj.cells #[Value.int IntKind.i64 0, Value.int IntKind.i64 0] 25)) (Obj.cells #[Value.int IntKind.i64 0, Value.int IntKind.i64 0] 25)
  have b3 := blk_new ((w.alloc (Obj.cells #[Value.map (some bm)] 87)).alloc (Obj.cells #[Value.int IntKind.i64 0, Value.int IntKind.i64 0] 25)) (Obj.cells #[Value.int IntKind.i64 0, Value.int IntKind.i64 0] 25)
  simp only [World.size_alloc] at b2 b3
  exact ⟨below_alloc (below_alloc (below_alloc (Below.refl _ _) _) _) _, b1, b3, by omega, own_one b2 (Nat.le_refl _), by simp [Value.ownBlock], trivial, ⟨⟨by omega, by have := HR.out.ha; omega⟩, ⟨by omega, by have := HR.out.hb; omega⟩⟩, Int.le_refl _, a.length + b.length, rfl, by omega, by simp; omega⟩
 case round =>
  rintro m a' wr ⟨i, k, v, Bat, xs, u, ds, HS, rfl, rfl⟩ J K hJ hK
  have HK := Aside0.mk hK
  have HJ := Aside0.mk hJ
  clear hK hJ
  have hTW := HT.out.below HS.out.below
  obtain ⟨A0', c0', A1', c1', ht, -, -⟩ := hTW
  have t2 : wr.cell? ⟨g, 2, none⟩ = some (.int .i64 ((a.length : Int) - 1)) := (blk_cell ht 2).trans rfl
  have t3 : wr.cell? ⟨g, 3, none⟩ = some (.int .i64 ((b.length : Int) - 1)) := (blk_cell ht 3).trans rfl
  have c0x : wr.cell? ⟨Bat, 0, none⟩ = some (.int .i64 i) := (blk_cell HS.out.at_ 0).trans rfl
  have c1x : wr.cell? ⟨Bat, 1, none⟩ = some (.int .i64 k) := (blk_cell HS.out.at_ 1).trans rfl
  clear ht
  generalize hz : ((i == (a.length : Int) - 1) && (k == (b.length : Int) - 1)) = zl
  go_wp2
  cases zl with
  | true =>
   go_quiet (fail)
   go_wp2
   refine leaves_marks ds _ (HS.out.marks.below (pw_below_drewN (Below.refl _ _) nq)) (fun W' hb hk => ?_)
   obtain ⟨n, hw, -, -⟩ := HS.out.walk
   rw [walk_end (by simp at hz; omega), List.append_nil] at hw
   refine ⟨_, results_tmp2 rfl _ _ _, v, rfl, ?_, HB0.out.trans ((HS.out.below.trans ((pw_below_drewN (Below.refl _ _) nq).trans hb)).mono HB0.out.size)⟩
   rw [← hw]
   exact Kd.R_lower ⟨fun _ _ => trivial, cellsW xs, own_hk HS.out.row hk, reps_W _ _ _ xs⟩ (by have := HB0.out.size; omega)
  | false =>
   go_quiet (fail)
   go_wp2_with (go_at_call 52; refine (callsIn_wide.1 (moves_in 3 g i k _)).mono ?_; rintro e w2 ⟨rfl, rfl⟩)
   have hbq : Below wr.heap.size wr (wr.drewN nq) := pw_below_drewN (Below.refl _ _) nq
   have hbl := below_alloc (below_alloc hbq (Obj.cells #[Value.pointer (some ⟨g, 0, none⟩)] 80)) (Obj.cells #[Value.int IntKind.i64 i, Value.int IntKind.i64 k] 25)
   have hBt := blk_alloc (blk_new (wr.drewN nq) (Obj.cells #[Value.pointer (some ⟨g, 0, none⟩)] 80)) (Obj.cells #[Value.int IntKind.i64 i, Value.int IntKind.i64 k] 25)
   have hBp := blk_new ((wr.drewN nq).alloc (Obj.cells #[Value.pointer (some ⟨g, 0, none⟩)] 80)) (Obj.cells #[Value.int IntKind.i64 i, Value.int IntKind.i64 k] 25)
   have hsl : (((wr.drewN nq).alloc (Obj.cells #[Value.pointer (some ⟨g, 0, none⟩)] 80)).alloc (Obj.cells #[Value.int IntKind.i64 i, Value.int IntKind.i64 k] 25)).heap.size = wr.heap.size + 2 := by simp
   rw [World.size_alloc] at hBp
   have hs0 : (wr.drewN nq).heap.size = wr.heap.size := rfl
   rw [hs0] at hBt hBp
   generalize (((wr.drewN nq).alloc (Obj.cells #[Value.pointer (some ⟨g, 0, none⟩)] 80)).alloc (Obj.cells #[Value.int IntKind.i64 i, Value.int IntKind.i64 k] 25)) = wl at hbl hBt hBp hsl ⊢
   clear hs0 hbq c0x c1x t2 t3
   have HBL := Aside0.mk hbl
   have hlow := HS.out.low
   have hBat : Bat < wr.heap.size := blk_lt HS.out.at_
   have HAT := Aside0.mk (blk_below2 hbl HS.out.at_)
   refine (wpIn_wide (n := 3)).1 ?_
   refine wpIn_rangeFunc_ownH rfl (by omega) (gf := 72) (lb := #[.pointer (some ⟨wr.heap.size + 1, 0, none⟩), .pointer (some ⟨wr.heap.size, 0, none⟩)]) rfl trivial (enters_of Try.func72 (by kernel_rfl) rfl)
    (moves_stops _ (by omega) (wr.heap.size + 1) wr.heap.size wr.heap.size g w.heap.size a b i k wl ((blk_cell hBp 0).trans rfl) ((blk_cell hBp 1).trans rfl) hBt (fun W' hb => HT.out.below ((HS.out.below.trans (hbl.mono HS.out.below.size)).trans hb)) (by have := HS.out.below.size; omega) (by omega) ((ptr_boxed (t := 80) (v := .pointer (some ⟨g, 0, none⟩)) hBt).trans rfl) (by have := HR.out.ha; have := HS.out.val; omega) (by have := HR.out.hb; have := HS.out.val; omega)) KpM.trans' (KpM.putObj (by have := HS.out.below.size; omega) (by omega)) (Below.refl _ _) (fun _ => rfl)
    (fun pre W => Below wl.heap.size wl W ∧ ∀ q ∈ pre, fitsW a b q.1 = false)
    (fun c pre W => c = .exit 2 ∧ ∃ (p : List {q : S25 // q ∈ movesOf a b i k}) (x : {q : S25 // q ∈ movesOf a b i k}), pre = p ++ [x] ∧ (∀ q ∈ p, fitsW a b q.1 = false) ∧ fitsW a b x.1 = true ∧ AtC wl W Bat 25 #[.int .i64 x.1.f0, .int .i64 x.1.f1])
    (OwnFrom.and (ownFrom_below (Nat.le_refl _) (Nat.le_refl _)) (ownFrom_pure _ _))
    (fun c s X Y row hs hg hr => by
     obtain ⟨h1, p, x, h2, h3, h4, h5⟩ := hs
     exact ⟨h1, p, x, h2, h3, h4, AtC.own (fun (_ : Unit) => #[.int .i64 x.1.f0, .int .i64 x.1.f1]) (by omega) () X Y row h5 hg hr⟩)
    ⟨Below.refl _ _, fun q hq => by cases hq⟩
    (fun x a' W => ∃ (u : Nat → Value) (Bq : Nat), a' = { tmps := #[u 0, u 1, u 2, u 3, u 4, u 5, u 6, u 7, .pointer (some ⟨w.heap.size, 0, none⟩), u 9, .pointer (some ⟨Bat, 0, none⟩), .pointer (some ⟨Bq, 0, none⟩), u 12, u 13, u 14, u 15, u 16, u 17, u 18, u 19, u 20, u 21, u 22, u 23, u 24, u 25, u 26, u 27, u 28, u 29, u 30, u 31, u 32, u 33, u 34, u 35, u 36, u 37, u 38, u 39, u 40, u 41, u 42, u 43, u 44, u 45, u 46, u 47, u 48, u 49], defers := [] } ∧ W.heap[Bq]? = some (.cells #[.int .i64 x.1.f0, .int .i64 x.1.f1] 25 (0, 0)))
    (fun x a' _ X Y row hs hg hr => by
     obtain ⟨u, Bq, h1, h2⟩ := hs
     exact ⟨u, Bq, h1, (hg.block Bq (blk_lt2 h2) (fun e => by obtain ⟨_, o, ho, hc⟩ := hr Bq e.symm; rw [h2] at ho; cases ho; cases hc)).trans h2⟩) ?assign ?body ?done ?stop
   case assign =>
    intro l pre x W K hI hK
    gi_wp2
    have hb := below_alloc (Below.refl W.heap.size W) (Obj.cells #[Value.int IntKind.i64 x.1.f0, Value.int IntKind.i64 x.1.f1] 25)
    refine hK _ _ ⟨hb.size, fun k o _ hk _ => blk_below2 hb hk⟩ (KpM.quiet hb (by have := hI.1.size; have := HS.out.below.size; omega) (by have := hI.1.size; omega)) ⟨hI.1.trans (hb.mono hI.1.size), hI.2⟩ ⟨fun k => ([_, _, _, _, _, _, _, _, undef, _, undef, undef, _, _, _, _, _, _, _, _, _, _, _, _, _, _, _, _, _, _, _, _, _, _, _, _, _, _, _, _, _, _, _, _, _, _, _, _, _, _] : List Value).getD k undef, _, rfl, blk_new _ _⟩
   case done =>
    rintro D ys W hD hys hI hDf
    exfalso
    obtain ⟨q, h1, h2, h3⟩ := next_some a b HR.out i k HS.out.val.1 HS.out.val.2 (by intro h; rw [h.1, h.2] at hz; simp at hz) HS.out.fits
    rw [← hys] at h2
    obtain ⟨y, hy, hyq⟩ := List.mem_map.1 h2
    have := hI.2 y hy
    unfold fitsW at this
    rw [decide_eq_false_iff_not, show y.1 = q from hyq] at this
    exact this h3
   case body =>
    rintro l pre x a' W hl _ hI ⟨u, Bq, rfl, hq⟩ hlt
    dsimp only
    have hbW : Below wr.heap.size wr W := below_then HBL.out HBL.out.size hI.1
    have hbw : Below w.heap.size w W := HS.out.below.trans (hbW.mono HS.out.below.size)
    have hx := (hasP_iff a b _ _).1 (moves_mem x.2).1
    have c8 : W.cell? ⟨w.heap.size, 0, none⟩ = some (.map (some bm)) := (blk_cell (blk_below2 hbW HS.out.box) 0).trans rfl
    have c110 : W.cell? ⟨Bq, 0, none⟩ = some (.int .i64 x.1.f0) := (blk_cell hq 0).trans rfl
    have c111 : W.cell? ⟨Bq, 1, none⟩ = some (.int .i64 x.1.f1) := (blk_cell hq 1).trans rfl
    have hat : W.heap[Bat]? = some (.cells #[.int .i64 i, .int .i64 k] 25 (0, 0)) := blk_below2 hbW HS.out.at_
    have ca0 : W.cell? ⟨Bat, 0, none⟩ = some (.int .i64 i) := (blk_cell hat 0).trans rfl
    have ca1 : W.cell? ⟨Bat, 1, none⟩ = some (.int .i64 k) := (blk_cell hat 1).trans rfl
    have fa0 := blk_frozen hat 0
    have fa1 := blk_frozen hat 1
    have hM := (HM.out.1.below hbw).same (w' := W.drew) rfl
    have hl1 : (Instr.lookup 87 (.map (some bm)) (.agg #[.int .i64 x.1.f0, .int .i64 x.1.f1]) false).run Try.prog W.drew = .ok (.int .i64 ((f x.1.f0 x.1.f1).getD 0)) W.drew := MapF.look hM und87 (zero3 _) ⟨⟨by omega, by have := HR.out.ha; omega⟩, ⟨by omega, by have := HR.out.hb; omega⟩⟩
    have hl2 : (Instr.lookup 87 (.map (some bm)) (.agg #[.int .i64 0, .int .i64 0]) false).run Try.prog W.drew = .ok (.int .i64 ((f 0 0).getD 0)) W.drew := MapF.look hM und87 (zero3 _) ⟨by omega, by omega⟩
    rw [HM.out.2 x.1.f0 x.1.f1 (moves_mem x.2).1] at hl1
    rw [HM.out.2 0 0 ((hasP_iff a b 0 0).2 ⟨⟨by omega, by have := HR.out.ha; omega⟩, ⟨by omega, by have := HR.out.hb; omega⟩⟩)] at hl2
    have hfx : fitsW a b x.1 = decide (restI a b x.1.f0 x.1.f1 ≤ restI a b 0 0) := rfl
    have HHI := Aside0.mk hI
    have HAW := Aside0.mk hat
    have HBWW := Aside0.mk hbw
    clear hbW hbw hx hat hM hI
    generalize hzz : decide (restI a b x.1.f0 x.1.f1 ≤ restI a b 0 0) = zz at hfx
    have HFX := Aside0.mk hfx
    clear hfx
    cases zz with
    | true =>
     gi_wp2
     gi_region_with (fail)
     all_goals
      gi_wp2
      exact ⟨(((KeepsOthers.setCell W _ _).trans (KeepsOthers.setCell _ _ _)).trans (KeepsOthers.drew _)).from _, rfl, pre, x, rfl, HHI.out.2, HFX.out, AtC.store2 HHI.out.1 HAW.out⟩
    | false =>
     gi_wp2
     have hb1 := pw_below_drewN (Below.refl W.heap.size W) 1
     have hpay : KeepsFrom wl.heap.size W W.drew ∧ KpM w.heap.size wr.heap.size wr.heap.size W W.drew ∧ (Below wl.heap.size wl W.drew ∧ ∀ q ∈ pre ++ [x], fitsW a b q.1 = false) :=
      ⟨(KeepsOthers.drew W).from _, KpM.quiet hb1 (HBWW.out.size) (by have := HHI.out.1.size; omega), HHI.out.1.trans (hb1.mono HHI.out.1.size), fun q hq => by
       rcases List.mem_append.1 hq with hq | hq
       · exact HHI.out.2 q hq
       · rw [List.mem_singleton.1 hq]; exact HFX.out⟩
     gi_region_with (fail)
     all_goals
      gi_wp2
      exact hpay
   case stop =>
    rintro D c pre W hD hpre ⟨rfl, p, x, rfl, hp, hx, hA⟩ hDf
    obtain ⟨tl, htl⟩ := hpre
    have hnx : nextOf a b i k = some x.1 := by
     have hn : (p.map fun q => q.1).find? (fitsW a b) = none := by
      rw [List.find?_eq_none]
      intro q hq
      obtain ⟨y, hy, rfl⟩ := List.mem_map.1 hq
      rw [hp y hy]
      decide
     unfold nextOf
     have h2 : (p ++ [x]).map (fun q => q.1) ++ tl = p.map (fun q => q.1) ++ (x.1 :: tl) := by simp
     refine (congrArg (List.find? (fitsW a b)) (htl.symm.trans h2)).trans ?_
     rw [List.find?_append, hn]
     simp [hx]
    obtain ⟨n, hw1, hw2, hw3⟩ := HS.out.walk
    obtain ⟨hm1, hm2⟩ := moves_mem x.2
    obtain ⟨q0, q1⟩ := (hasP_iff a b _ _).1 hm1
    have hgt : i ≤ x.1.f0 ∧ k ≤ x.1.f1 ∧ i + k < x.1.f0 + x.1.f1 := by
     rcases hm2 with h | h | h <;> rw [h] <;> refine ⟨?_, ?_, ?_⟩ <;> dsimp only <;> omega
    have hfit : restI a b x.1.f0 x.1.f1 ≤ restI a b 0 0 := of_decide_eq_true hx
    obtain ⟨m, rfl⟩ : ∃ m, n = m + 1 := ⟨n - 1, by have := HS.out.val; omega⟩
    have hw1' : (xs ++ [x.1]) ++ walkFrom a b m x.1.f0 x.1.f1 = walkOf a b := by
     rw [← hw1, List.append_assoc]
     congr 1
     rw [walkFrom, if_neg (by intro h; rw [h.1, h.2] at hz; simp at hz), hnx]
     rfl
    have hbut := hA.but
    have hlW : wl.heap.size ≤ W.heap.size := hA.low.size
    have hboxW : W.heap[w.heap.size]? = some (.cells #[.map (some bm)] 87 (0, 0)) := (hbut _ (by omega) (by omega)).trans (blk_below2 HBL.out HS.out.box)
    have hbwW : Below w.heap.size w W := by
     have h1 : Below w.heap.size w wl := HS.out.below.trans (HBL.out.mono HS.out.below.size)
     exact h1.trans ⟨hA.low.os, hA.low.tape, hA.low.output, hA.low.size, fun g hg => hbut g (by have := h1.size; omega) (by omega)⟩
    have hrowW : W.ownsRow (w.heap.size + 1) 25 2 v xs.length (cellsW xs) := by
     obtain ⟨h1, h2⟩ := HS.out.row
     refine ⟨h1, ?_⟩
     rcases h2 with h2 | ⟨g', cap, cur, h3, h4, h5, h6⟩
     · exact .inl h2
     · have hne := HS.out.ne
       rw [h3] at hne
       have hne' : g' ≠ Bat := fun e => hne (by rw [e]; rfl)
       exact .inr ⟨g', cap, cur, h3, h4, (hbut g' (by have := blk_lt2 h5; omega) hne').trans (blk_below2 HBL.out h5), h6⟩
    have hmkW : Marks w.heap.size ds W := HS.out.marks.mono' fun d hd D' he h5 => by
     have hlt := blk_lt2 h5
     exact (hbut D' (by omega) (fun e => by rw [e, HS.out.at_] at h5; cases h5)).trans ((HBL.out.block D' hlt).trans h5)
    have hlenX : xs.length + (m + 1) ≤ 61 := by have := HR.out.ha; have := HR.out.hb; omega
    obtain ⟨i0, hi, hz0, hz1, hz2⟩ := info_parts info25
    have ca0 : W.cell? ⟨Bat, 0, none⟩ = some (.int .i64 x.1.f0) := (blk_cell hA.cell 0).trans rfl
    have ca1 : W.cell? ⟨Bat, 1, none⟩ = some (.int .i64 x.1.f1) := (blk_cell hA.cell 1).trans rfl
    have hWB : w.heap.size + 1 ≤ W.heap.size := by have := blk_lt2 hboxW; omega
    have hb1 := blk_alloc (blk_new W (Obj.cells #[Value.int IntKind.i64 x.1.f0, Value.int IntKind.i64 x.1.f1] 25)) (Obj.cells #[Value.int IntKind.i64 x.1.f0, Value.int IntKind.i64 x.1.f1] 25)
    have hbn : Below W.heap.size W ((W.alloc (Obj.cells #[Value.int IntKind.i64 x.1.f0, Value.int IntKind.i64 x.1.f1] 25)).alloc (Obj.cells #[Value.int IntKind.i64 x.1.f0, Value.int IntKind.i64 x.1.f1] 25)) := below_alloc (below_alloc (Below.refl _ _) _) _
    have HDW := Aside0.mk (And.intro hD hDf)
    have HMK := Aside0.mk hmkW
    have HBWW := Aside0.mk hbwW
    have HBX := Aside0.mk hboxW
    have HWK := Aside0.mk hw1'
    have HB1 := Aside0.mk hb1
    have HBN := Aside0.mk hbn
    clear hD hDf hmkW hbwW hboxW hw1' hb1 hbn hA hbut htl hp
    refine (wpIn_wide (n := 3)).2 ?_
    go_wp2_with (at_builtin; refine Aside0.out ?_)
    refine ⟨?_⟩
    refine wpList_append_own_at _ rfl _ _ 38 rfl (w.heap.size + 1) 25 i0 (.agg #[(.int .i64 0), (.int .i64 0)]) 2 16 Try.underlying38 hi hz0 hz1 hz2 rfl (by decide) v xs.length (cellsW xs) rfl ((hrowW.alloc _).alloc _) ⟨W.heap.size + 1, 0, none⟩ 1 1 [.int .i64 x.1.f0, .int .i64 x.1.f1] rfl rfl (by simpa using cell_two_new (W.alloc (Obj.cells #[Value.int IntKind.i64 x.1.f0, Value.int IntKind.i64 x.1.f1] 25)) (Value.int IntKind.i64 x.1.f0) (Value.int IntKind.i64 x.1.f1) 25) (by simp [Value.oneCell']) (by unfold maxLen; omega) (by omega) (by simp; omega) ?_
    intro v' wa hown' hgrow _ hat'
    go_wp2
    have hbase : ∀ j, v.ownBlock = some j → w.heap.size + 1 ≤ j := fun j hj => own_base hrowW j hj
    have hltv : ∀ j, v.ownBlock = some j → j < W.heap.size := own_lt hrowW
    have hkeep : ∀ (j : Nat) (o : Obj), W.heap[j]? = some o → v.ownBlock ≠ some j → wa.heap[j]? = some o := fun j o h1 h2 => by
     have hlt := blk_lt2 h1
     exact (hgrow.block j (Nat.lt_of_lt_of_le hlt HBN.out.size) (Ne.symm h2)).trans ((HBN.out.block j hlt).trans h1)
    have hnd : ∀ (j : Nat) (l : Option (List Deferred)), W.heap[j]? = some (.deferred l) → v.ownBlock ≠ some j := fun j l h1 h2 => own_def hrowW h2 h1
    have hbw2 : Below w.heap.size w wa := HBWW.out.trans ((HBN.out.mono (by omega)).grown hgrow (by simp; omega) (fun j ej => by have := hbase j ej; omega))
    have hlv := lenOf_own hown'
    have hlv0 := lenOf_own hrowW
    refine HK.out _ _ (Handed.intro (100 - (xs ++ [x.1]).length) (by simp; omega) (HJ.out _ _ _ ⟨x.1.f0, x.1.f1, v', W.heap.size, xs ++ [x.1], fun k => ([_, _, _, _, _, _, undef, _, undef, undef, undef, _, _, _, _, _, _, _, _, _, _, _, _, _, _, _, _, _, _, _, _, _, _, _, _, _, _, _, _, _, _, _, _, _, _, _, _, _, _, _] : List Value).getD k undef, _, ⟨?_⟩, rfl, rfl⟩))
    · refine ⟨hbw2, hkeep _ _ HBX.out (fun e => by have := hbase _ e; omega), (hgrow.block _ (by simp; omega) (fun e => by have := hltv _ e.symm; omega)).trans HB1.out, by omega, ?_, ?_, ?_, ⟨q0, q1⟩, hfit, m, HWK.out, by omega, by simp; omega⟩
      · have hc : cellsW (xs ++ [x.1]) = cellsW xs ++ [Value.int IntKind.i64 x.1.f0, Value.int IntKind.i64 x.1.f1] := by simp [cellsW]
        rw [hc, List.length_append]
        exact hown'
      · rcases hat' with h | h
        · rw [h]
          exact fun e => by have := hltv _ e.symm; omega
        · rw [h]
          exact fun e => by have := Option.some.inj e; simp only [World.size_alloc] at this; omega
      · exact (HMK.out.mono' (fun d hd D' he h5 => hkeep _ _ h5 (hnd _ _ h5))).cons HS.out.marks (by have := HDW.out.1; omega) (by have := HDW.out.1; have := HS.out.below.size; omega) (hkeep _ _ HDW.out.2 (hnd _ _ HDW.out.2))

end Go.Proofs.Ytkocigldchiifaa.H

/- align.Walk. -/
namespace Go.Proofs.Ytkocigldchiifaa.H
open Go.RowKit Go.Proofs.YtkocigldchiifaaW.PrintWords Go.Proofs.YtkocigldchiifaaW.PrintLast Go.Proofs.YtkocigldchiifaaW.PrintMore
open Go.Shelf Go.Proofs.Ytkocigldchiifaa.QA
attribute [local go_sem] Oper.semAt_some
set_option linter.unusedVariables false
set_option linter.unusedSimpArgs false


def align_Walk.f (l0 l1 : List S59) : Option (List S25 × Int) := (align_Check.f l0 l1).bind fun e => some (if e = 0 then (walkOf l0 l1, 0) else ([], e))
set_option maxRecDepth 100000 in
set_option maxHeartbeats 1000000 in
theorem align_Walk.calls (A0 : Option Addr) (c0 : Nat) (l0 : List S59) (A1 : Option Addr) (c1 : Nat) (l1 : List S59) (r1 : List S25) (r2 : Int) (w : World) (hr0 : Kd.C k59 w A0 l0.length l0) (hc0 : l0.length ≤ c0) (hr1 : Kd.C k59 w A1 l1.length l1) (hc1 : l1.length ≤ c1) (h : align_Walk.f l0 l1 = some (r1, r2)) :
  Calls Try.prog 21 #[.slice A0 l0.length c0, .slice A1 l1.length c1] w fun e w' => ∃ v0_ : Value, e = .returned (.tuple #[v0_, .int .i64 r2]) ∧ Kd.R k25 25 w' w.heap.size (fun _ => True) v0_ r1 ∧ Below w.heap.size w w' := by
 have hu25 := Try.underlying25
 unfold align_Walk.f at h
 obtain ⟨e, he, h⟩ := Option.bind_eq_some_iff.1 h
 have HR0 := Aside0.mk hr0
 have HR1 := Aside0.mk hr1
 have HE := Aside0.mk he
 have HC := Aside0.mk (And.intro hc0 hc1)
 have h1 := Option.some.inj h
 clear h he hr0 hr1 hc0 hc1
 by_cases h0 : e = 0
 · subst h0
   rw [if_pos rfl] at h1
   obtain ⟨rfl, rfl⟩ := Prod.mk.inj h1
   exact (walk_ok A0 c0 l0 A1 c1 l1 w HR0.out HC.out.1 HR1.out HC.out.2 HE.out)
 · rw [if_neg h0] at h1
   obtain ⟨rfl, rfl⟩ := Prod.mk.inj h1
   have hb0 : (e != 0) = true := by simp [h0]
   have H0 := Aside0.mk h0
   clear h1 h0
   go_enter Try.func21, Try.ntmps21
   go_wp2_with fail
   refine (newTable_no A0 c0 l0 A1 c1 l1 e _ HR0.out HC.out.1 HR1.out HC.out.2 HE.out H0.out).mono ?_
   rintro e w1 ⟨rfl, hb⟩
   have HB := Aside0.mk hb
   clear hb
   go_wp2
   go_ret2
   exact ⟨_, rfl, Kd.R_nil _ _ _ _ _, HB.out⟩

end Go.Proofs.Ytkocigldchiifaa.H
