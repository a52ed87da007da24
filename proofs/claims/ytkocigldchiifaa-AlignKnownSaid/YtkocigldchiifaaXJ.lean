/- Texts HQ, HS, PH of this chapter, one behind the other. -/
import Derived.Carry
import Derived.LoopIn
import Derived.LoopNIn
import Derived.Maps.AppendAt
import Derived.OwnWalkIn
import Derived.RangeFuncBound
import Derived.RangeFuncBox
import Derived.RangeFuncCalls
import Derived.RangeFuncLeaves
import Derived.RangeFuncNested
import Derived.RangeFuncWrites
import Derived.Shelf.Abstract
import Derived.Shelf.RegionOpen
import Derived.TacticsInMore
import Derived.WalkKit
import Derived.WalkSmall
import Derived.Test.YtkocigldchiifaaQA3
import Derived.Test.YtkocigldchiifaaQA7
import Derived.Test.YtkocigldchiifaaXA
import Derived.Test.YtkocigldchiifaaXB
import Derived.Test.YtkocigldchiifaaXC
import Derived.Test.YtkocigldchiifaaXE
import Derived.Test.YtkocigldchiifaaXG

/- slices.Collect of the moves from a pair. -/
namespace Go.Proofs.Ytkocigldchiifaa.H
open Go.RowKit Go.Proofs.YtkocigldchiifaaW.PrintWords Go.Proofs.YtkocigldchiifaaW.PrintLast Go.Proofs.YtkocigldchiifaaW.PrintMore
open Go.Shelf Go.Proofs.Ytkocigldchiifaa.QA
attribute [local go_sem] Oper.semAt_some
set_option linter.unusedVariables false
set_option linter.unusedSimpArgs false

theorem cellsP_oneC (xs : List S25) : ∀ u ∈ cellsP xs, u.oneCell' = true := by
 intro u hu
 obtain ⟨x, _, hx⟩ := List.mem_flatMap.1 hu
 simp only [List.mem_cons, List.not_mem_nil, or_false] at hx
 rcases hx with rfl | rfl <;> rfl
/-- A slice that is boxed, and its row. -/
structure Cs (w W : World) (v : Value) (xs : List S25) : Prop where
 below : Below w.heap.size w W
 box : Boxed W w.heap.size 38 v
 row : W.ownsRow w.heap.size 25 2 v xs.length (cellsP xs)
section
variable {w W W' : World} {v : Value} {xs : List S25}
theorem own_keptP {base : Nat} (h : W.ownsRow base 25 2 v xs.length (cellsP xs)) (hk : ∀ (j : Nat) (cur : Array Value), v.ownBlock = some j → W.heap[j]? = some (.cells cur 25 (0, 0)) → W'.heap[j]? = some (.cells cur 25 (0, 0))) : W'.ownsRow base 25 2 v xs.length (cellsP xs) := by
 obtain ⟨h1, h2⟩ := h
 refine ⟨h1, ?_⟩
 rcases h2 with h2 | ⟨g, cap, cur, rfl, h4, h5, h6⟩
 · exact .inl h2
 · exact .inr ⟨g, cap, cur, rfl, h4, hk g cur rfl h5, h6⟩
theorem Cs.quiet (h : Cs w W v xs) (hb : Below W.heap.size W W') : Cs w W' v xs :=
 ⟨h.below.trans (hb.mono h.below.size), blk_below2 hb h.box, own_keptP h.row fun j cur _ hj => blk_below2 hb hj⟩
theorem Cs.lt (h : Cs w W v xs) : w.heap.size < W.heap.size := h.box.lt
theorem Cs.grown (h : Cs w W v xs) {row : Option Nat} (hg : W.grownBy W' row) (hr : ∀ r, row = some r → w.heap.size ≤ r ∧ ∃ o : Obj, W.heap[r]? = some o ∧ o.isCells = false) : Cs w W' v xs := by
 have hk : ∀ (j : Nat) (o : Obj), W.heap[j]? = some o → o.isCells = true → W'.heap[j]? = some o := fun j o ho hc => (hg.block j (blk_lt2 ho) (fun e => by
  obtain ⟨h1, o', h2, h3⟩ := hr j e.symm
  rw [ho] at h2
  cases h2
  rw [hc] at h3; cases h3)).trans ho
 exact ⟨h.below.grown hg h.below.size (fun k e => (hr k e).1), hk _ _ h.box rfl, own_keptP h.row fun j cur _ hj => hk _ _ hj rfl⟩
end
/-- Pairs appended, in a loop's body. -/
theorem wpListIn_append_at {F : Fence} {n : Nat} (w : World) {ops : Array Oper} {rest : List Oper} {o : Oper} {a : Act} {Q : Exit → Act → World → Prop}
  (hg : o.guard = none) (s x : Operand) (hop : o.op = Op.call { callee := Callee.builtin Builtin.append, args := #[s, x], argTypes := #[38, 38] })
  (base : Nat) (v : Value) (xs ys : List S25) (hs : a.eval s = v) (hown : w.ownsRow base 25 2 v xs.length (cellsP xs)) (ad : Addr) (m c : Nat) (hx : a.eval x = .slice (some ad) m c) (hm : m = ys.length)
  (hc : ∀ j u, (cellsP ys)[j]? = some u → w.cell? (ad.add j) = some u) (hl : xs.length + m ≤ 1000000) (hb : base ≤ w.heap.size)
  (hK : ∀ v' w', w'.ownsRow base 25 2 v' (xs ++ ys).length (cellsP (xs ++ ys)) → w.grownBy w' v.ownBlock → (v'.ownBlock = v.ownBlock ∨ v'.ownBlock = some w.heap.size) → wpListIn F n Try.prog ops Q rest (a.put o.dst v') w') :
  wpListIn F n Try.prog ops Q (o :: rest) a w := by
 obtain ⟨i0, hi, hz0, hz1, hz2⟩ := info_parts info25
 have hM : maxLen = 9223372036854775807 := rfl
 refine wpListIn_plain hg fun K hK' => ?_
 obtain ⟨v', w', hrun, r1, r2, _, r3⟩ := run_append_own_at (P := Try.prog) w base 38 o.type 25 i0 (.agg #[(.int .i64 0), (.int .i64 0)]) 2 16 Try.underlying38 hi hz0 hz1 hz2 rfl (by decide) v xs.length (cellsP xs) hown ad m c (cellsP ys) (by rw [cellsP_len, hm]) hc (cellsP_oneC ys) (by omega) (by omega) hb
 unfold Oper.wpIn
 refine ⟨?_, ?_⟩
 · simp [Oper.about, hop, resolve, Target.leads, Sem.run_pure]
 · rw [Oper.semAt_plain F _ _ (by rw [hop]; intro c hc'; cases hc')]
   simp [execOp, hop, resolve, invoke, builtin, hs, hx, hrun, Result.andThen]
   refine hK' _ _ (hK v' w' ?_ r2 r3)
   rw [List.length_append, ← hm, show cellsP (xs ++ ys) = cellsP xs ++ cellsP ys by simp [cellsP]]
   exact r1
theorem own_succ {W : World} {base : Nat} {v : Value} {xs : List S25} {x : S25} (h : W.ownsRow base 25 2 v (xs ++ [x]).length (cellsP (xs ++ [x]))) : ∃ g cap, v = .slice (some ⟨g, 0, none⟩) (xs ++ [x]).length cap := by
 rcases h.2 with ⟨_, h0⟩ | ⟨g, cap, _, rfl, _⟩
 · simp at h0
 · exact ⟨g, cap, rfl⟩
theorem repsP (w : World) (base : Nat) (ok : Nat → Prop) (xs : List S25) : Reps (k25.M w base ok) 2 xs (cellsP xs) := by
 have h : ∀ (ys zs : List S25), Reps (k25.M w base ok) 2 ys (cellsP ys) → Reps (k25.M w base ok) 2 (ys ++ zs) (cellsP (ys ++ zs)) := fun ys zs => by
  induction zs generalizing ys with
  | nil => intro h; simpa using h
  | cons z zs ih =>
   intro h
   have := ih (ys ++ [z]) (by
    have h2 := h.snoc (p := z) (c := [.int .i64 z.f0, .int .i64 z.f1]) (k25_mkM w base ok z) rfl
    simpa [cellsP] using h2)
   simpa using this
 simpa using h [] xs (Reps.none _ _)
set_option maxHeartbeats 4000000 in
set_option maxRecDepth 100000 in
/-- slices.AppendSeq(nil, moves). -/
theorem appendSeq_calls (g Bp Bt : Nat) (a b : List S59) (i k : Int) (w : World) (hp0 : w.cell? ⟨Bp, 0, none⟩ = some (.int .i64 i)) (hp1 : w.cell? ⟨Bp, 1, none⟩ = some (.int .i64 k)) (htb : w.heap[Bt]? = some (.cells #[.pointer (some ⟨g, 0, none⟩)] 80 (0, 0)))
  (hT : Tb w g a b) (hi : 0 ≤ i ∧ i ≤ 1000) (hk : 0 ≤ k ∧ k ≤ 1000) :
  Calls Try.prog 79 #[.slice none 0 0, .func (.func 72) #[] #[.pointer (some ⟨Bp, 0, none⟩), .pointer (some ⟨Bt, 0, none⟩)]] w fun e w' => ∃ v, e = .returned v ∧ w'.ownsRow w.heap.size 25 2 v (movesOf a b i k).length (cellsP (movesOf a b i k)) ∧ Below w.heap.size w w' := by
 have hu25 := Try.underlying25
 obtain ⟨i0, hi25, hz0, hz1, hz2⟩ := info_parts info25
 refine calls_of_wp_marks Try.func79 rfl ?_
 simp only [Try.ntmps79, List.size_toArray, List.length_cons, List.length_nil, Nat.reduceAdd, Nat.reduceSub, Array.replicate_succ, Array.replicate_zero, List.push_toArray, List.append_toArray, List.nil_append, List.cons_append]
 go_wp2_with fail
 have hb0 := below_alloc (Below.refl w.heap.size w) (.cells #[.slice none 0 0] 38)
 have hS : Cs w (w.alloc (.cells #[.slice none 0 0] 38)) (.slice none 0 0) [] := ⟨hb0, blk_new w _, ⟨rfl, .inl ⟨rfl, rfl⟩⟩⟩
 have hltp : Bp < w.heap.size := by have := World.block_lt_of_cell? _ _ hp0; exact this
 have hltt : Bt < w.heap.size := blk_lt2 htb
 have q0 := (hb0.cell (p := ⟨Bp, 0, none⟩) hltp).trans hp0
 have q1 := (hb0.cell (p := ⟨Bp, 1, none⟩) hltp).trans hp1
 have qt := blk_below2 hb0 htb
 have hT1 := hT.below hb0
 have hsl : (w.alloc (.cells #[.slice none 0 0] 38)).heap.size = w.heap.size + 1 := by simp
 generalize w.alloc (.cells #[.slice none 0 0] 38) = wl at hS q0 q1 qt hT1 hsl ⊢
 have HS := Aside0.mk hS
 have HT := Aside0.mk hT
 clear hb0 hp0 hp1 htb
 refine (wpIn_wide (n := 3)).1 ?_
 refine wpIn_rangeFunc_ownH rfl (by omega) (gf := 72) (lb := #[.pointer (some ⟨Bp, 0, none⟩), .pointer (some ⟨Bt, 0, none⟩)]) rfl trivial (enters_of Try.func72 (by kernel_rfl) rfl)
  (moves_stops _ (by omega) Bp Bt w.heap.size g w.heap.size a b i k wl q0 q1 qt (fun W' hb => HT.out.below (HS.out.below.trans hb)) (by omega) (by omega) ((ptr_boxed HS.out.box).trans rfl) hi hk) KpM.trans' (KpM.putObj (by omega) (by omega)) (Below.refl _ _) (fun _ => rfl)
  (fun pre W => ∃ v : Value, Cs w W v (pre.map (·.1)))
  (fun _ _ _ => False)
  (fun pre X Y row hs hg hr => by
   obtain ⟨v, h1⟩ := hs
   exact ⟨v, h1.grown hg (fun r e => by obtain ⟨h3, h4⟩ := hr r e; exact ⟨by omega, h4⟩)⟩)
  (fun _ _ _ _ _ hs _ _ => hs)
  ⟨.slice none 0 0, HS.out⟩
  (fun x a' W => ∃ (u : Nat → Value) (Bq : Nat), a' = { tmps := #[u 0, u 1, .pointer (some ⟨w.heap.size, 0, none⟩), u 3, u 4, .pointer (some ⟨Bq, 0, none⟩), u 6, u 7, u 8, u 9, u 10, u 11, u 12], defers := [] } ∧ W.heap[Bq]? = some (.cells #[.int .i64 x.1.f0, .int .i64 x.1.f1] 25 (0, 0)))
  (fun x a' _ X Y row hs hg hr => by
   obtain ⟨u, Bq, h1, h2⟩ := hs
   exact ⟨u, Bq, h1, (hg.block Bq (blk_lt2 h2) (fun e => by obtain ⟨_, o, ho, hc⟩ := hr Bq e.symm; rw [h2] at ho; cases ho; cases hc)).trans h2⟩) ?assign ?body ?done ?stop
 case stop =>
  rintro D c pre W _ _ h _
  exact h.elim
 case assign =>
  intro l pre x W K hI hK
  gi_wp2
  obtain ⟨v, h1⟩ := hI
  have hb := below_alloc (Below.refl W.heap.size W) (Obj.cells #[Value.int IntKind.i64 x.1.f0, Value.int IntKind.i64 x.1.f1] 25)
  refine hK _ _ ⟨hb.size, fun k o _ hk _ => blk_below2 hb hk⟩ (KpM.quiet hb (by have := h1.lt; omega) h1.lt) ⟨v, h1.quiet hb⟩ ⟨fun k => ([_, _, undef, _, _, undef, _, _, _, _, _, _, _] : List Value).getD k undef, _, rfl, blk_new _ _⟩
 case body =>
  rintro l pre x a' W hl _ hI ⟨u, Bq, rfl, hq⟩ hlt
  obtain ⟨v, hC⟩ := hI
  have c2 := hC.box.cell
  have c50 : W.cell? ⟨Bq, 0, none⟩ = some (.int .i64 x.1.f0) := (blk_cell hq 0).trans rfl
  have c51 : W.cell? ⟨Bq, 1, none⟩ = some (.int .i64 x.1.f1) := (blk_cell hq 1).trans rfl
  have hb := below_alloc (Below.refl W.heap.size W) (Obj.cells #[Value.int IntKind.i64 x.1.f0, Value.int IntKind.i64 x.1.f1] 25)
  have hC2 := hC.quiet hb
  have HC := Aside0.mk hC
  have HL := Aside0.mk hlt
  clear hC hq
  gi_wp2_with (gi_at_builtin; refine Aside0.out ?_)
  refine ⟨?_⟩
  refine wpListIn_append_at _ rfl _ _ rfl w.heap.size v (pre.map (·.1)) [x.1] rfl hC2.row ⟨W.heap.size, 0, none⟩ 1 1 rfl rfl (fun j u hu => by simpa using World.news_of_block (cs := #[Value.int IntKind.i64 x.1.f0, Value.int IntKind.i64 x.1.f1]) (t := 25) (fr := (0, 0)) (heap_alloc_new W (Obj.cells #[Value.int IntKind.i64 x.1.f0, Value.int IntKind.i64 x.1.f1] 25)) j u (by simpa [cellsP] using hu)) (by have := HL.out; rw [List.length_map]; omega) (by have := hC2.lt; omega) ?_
  intro v' w' r1 r2 r3
  obtain ⟨g', cap', rfl⟩ := own_succ r1
  obtain ⟨L, hL⟩ : ∃ L, (pre.map (·.1) ++ [x.1]).length = L := ⟨_, rfl⟩
  rw [hL] at r1 r3 ⊢
  have HLL := Aside0.mk hL
  clear hL
  obtain ⟨b1, b2, b3, b4, b5⟩ := Boxed.appended HC.out.box (by decide) HC.out.row HC.out.below.size (Nat.le_refl _) r1 r2
  have d1 := b1.cell
  have d2 := b1.frozen
  have HBB := Aside0.mk (And.intro b2 (And.intro b3 (And.intro b4 b5)))
  have HR := Aside0.mk (And.intro r2 r3)
  clear b1 b2 b3 b4 b5 r1 r2 r3 hC2 hb
  have hpt : ∀ y : Nat, ptrAt W w.heap.size = some y ↔ v.ownBlock = some y := fun y => by rw [ptr_boxed HC.out.box]
  gi_wp2
  have hpre : (pre ++ [x]).map (·.1) = pre.map (·.1) ++ [x.1] := by simp
  refine ⟨HBB.out.2.2.1.from _, ⟨HBB.out.2.2.2, fun cs t fz hg => (HBB.out.2.2.2.block Bt hltt).trans hg, fun y cs hg hp => ?_, fun y hy => ?_⟩, _, ⟨HC.out.below.trans HBB.out.2.2.2, HBB.out.1, by rw [hpre, HLL.out]; exact HBB.out.2.1⟩⟩
  · have hne : y ≠ w.heap.size := fun e => by
     subst e
     have := HC.out.box.symm.trans hg
     cases this
    refine (Below.heap_setCell _ _ _ _ hne).trans ((HR.out.1.block y (by have := blk_lt2 hg; simp; omega) (fun e => hp ((hpt y).2 e.symm))).trans ((Below.heap_alloc W _ y (blk_lt2 hg)).trans hg))
  · rw [ptr_boxed HBB.out.1] at hy
    rcases HR.out.2 with h | h
    · exact .inl ((hpt y).2 (h.symm.trans hy))
    · refine .inr ?_
      have := Option.some.inj (h.symm.trans hy)
      simp at this
      omega
 case done =>
  rintro D ys W hD hys hI hDf
  obtain ⟨v, hC⟩ := hI
  have c2 := hC.box.cell
  rw [hys] at hC
  have HC := Aside0.mk hC
  have HD := Aside0.mk hDf
  clear hC
  dsimp only
  go_wp2
  refine leaves_marks (n₀ := w.heap.size) [{ target := .collected D, args := #[] }] W ⟨⟨D, rfl, by omega, HD.out, fun d' hd => by cases hd⟩, trivial⟩ (fun W' hb hk => ⟨_, results_tmp rfl _ _ _, _, rfl, own_keptP HC.out.row (fun j cur _ hj => hk _ _ hj (fun c e => by cases e)), HC.out.below.trans hb⟩)
/-- slices.Collect(moves). -/
theorem collect_calls (g Bp Bt : Nat) (a b : List S59) (i k : Int) (w : World) (hp0 : w.cell? ⟨Bp, 0, none⟩ = some (.int .i64 i)) (hp1 : w.cell? ⟨Bp, 1, none⟩ = some (.int .i64 k)) (htb : w.heap[Bt]? = some (.cells #[.pointer (some ⟨g, 0, none⟩)] 80 (0, 0)))
  (hT : Tb w g a b) (hi : 0 ≤ i ∧ i ≤ 1000) (hk : 0 ≤ k ∧ k ≤ 1000) :
  Calls Try.prog 67 #[.func (.func 72) #[] #[.pointer (some ⟨Bp, 0, none⟩), .pointer (some ⟨Bt, 0, none⟩)]] w fun e w' => ∃ A c, e = .returned (.slice A (movesOf a b i k).length c) ∧ (movesOf a b i k).length ≤ c ∧ Kd.C k25 w' A (movesOf a b i k).length (movesOf a b i k) ∧ Below w.heap.size w w' := by
 have HP := Aside0.mk (And.intro hp0 (And.intro hp1 (And.intro htb hT)))
 clear hp0 hp1 htb hT
 go_enter Try.func67, Try.ntmps67
 go_wp2_with fail
 refine (appendSeq_calls g Bp Bt a b i k _ HP.out.1 HP.out.2.1 HP.out.2.2.1 HP.out.2.2.2 hi hk).mono ?_
 rintro e w1 ⟨v, rfl, hO, hb⟩
 have hR : Kd.R k25 25 w1 w.heap.size (fun _ => True) v (movesOf a b i k) := ⟨fun _ _ => trivial, cellsP (movesOf a b i k), hO, repsP _ _ _ _⟩
 obtain ⟨A, c, rfl, hc, hC⟩ := Kd.R_reads hR
 have HC := Aside0.mk (And.intro hc (And.intro hC hb))
 clear hO hR hc hC hb
 go_wp2
 go_ret
 exact ⟨A, c, rfl, HC.out⟩

end Go.Proofs.Ytkocigldchiifaa.H

/- align.Height. -/
namespace Go.Proofs.Ytkocigldchiifaa.H
open Go.RowKit Go.Proofs.YtkocigldchiifaaW.PrintWords Go.Proofs.YtkocigldchiifaaW.PrintLast Go.Proofs.YtkocigldchiifaaW.PrintMore
open Go.Shelf Go.Proofs.Ytkocigldchiifaa.QA
attribute [local go_sem] Oper.semAt_some
attribute [local go_sem high] eqA25
set_option linter.unusedVariables false
set_option linter.unusedSimpArgs false



def hgt14_T : Bool × List (List Nat × List Nat) := (true, [([], []), ([0], [0]), ([1], [1]), ([2], [2]), ([2], [2]), ([2], [2]), ([5, 2], [2, 5]), ([4, 6, 2], [2, 4, 6]), ([7, 2], [2, 7]), ([3, 8, 2, 2], [2, 3, 8]), ([9, 9, 2], [2, 9]), ([2], [2]), ([10, 11, 10, 2], [2, 10, 11]), ([12, 2], [2, 12]), ([2, 13], [2, 13]), ([14, 12], [14])])
def hgt14_B : List Nat := [0, 1, 3, 7, 7, 7, 39, 119, 247, 511, 1023, 7, 4095, 8191, 16383, 32767]
theorem hgt14_tab : rtab .any (opsOf Try.f35 14) = hgt14_T := by kernel_rfl
theorem hgt14_bits : waitsOk hgt14_T.2 hgt14_B = true := by kernel_rfl
def hgt18_T : Bool × List (List Nat × List Nat) := (true, [([], []), ([], []), ([1], [1]), ([2], [2]), ([0, 3], [0, 3]), ([4], [4]), ([], []), ([6], [6]), ([7], [7]), ([8], [8]), ([5, 9], [5, 9])])
def hgt18_B : List Nat := [0, 0, 2, 6, 15, 31, 0, 64, 192, 448, 1023]
theorem hgt18_tab : rtab .any (opsOf Try.f35 18) = hgt18_T := by kernel_rfl
theorem hgt18_bits : waitsOk hgt18_T.2 hgt18_B = true := by kernel_rfl

theorem max2_mxH (k k' : IntKind) (x y : Int) : Builtin.max2 (.int k x) (.int k' y) = pure (.int k (mx x y)) := max2_int k k' x y
/-- A move. -/
def stepB (q p : S25) : Bool := isIn 0 (p.f0 - q.f0) 1 && (isIn 0 (p.f1 - q.f1) 1 && !(p.f0 - q.f0 + (p.f1 - q.f1) == 0))
/-- What is wrong at a pair of a list: 0 if nothing is. -/
def htAt (a b : List S59) (l : List S25) (i : Nat) : Int :=
 if hasP a b (rd_T25 l i).f0 (rd_T25 l i).f1 = false then 8 else if i = 0 then (if (rd_T25 l i).f0 = 0 ∧ (rd_T25 l i).f1 = 0 then 0 else 7) else if stepB (rd_T25 l ((i - 1 : Nat) : Int)) (rd_T25 l i) = false then 7 else 0
def htFrom (a b : List S59) (l : List S25) : Nat → Nat → Int → Int × Int
 | 0, _, ht => if (rd_T25 l ((l.length - 1 : Nat) : Int)).f0 = (a.length : Int) - 1 ∧ (rd_T25 l ((l.length - 1 : Nat) : Int)).f1 = (b.length : Int) - 1 then (ht, 0) else (0, 13)
 | n + 1, i, ht => if htAt a b l i = 0 then htFrom a b l n (i + 1) (mx ht (farD (rd_T59 a (rd_T25 l i).f0) (rd_T59 b (rd_T25 l i).f1))) else (0, htAt a b l i)
def htF (a b : List S59) (l : List S25) : Int × Int := if l.length = 0 then (0, 4) else htFrom a b l l.length 0 0
def align_Height.f (l0 l1 : List S59) (l2 : List S25) : Option (Int × Int) := (align_Check.f l0 l1).bind fun e => some (if e = 0 then htF l0 l1 l2 else (0, e))
theorem contains_f {a b : List S59} (q p : S25) (hq : hasP a b q.f0 q.f1 = true) (hp : hasP a b p.f0 p.f1 = true) : align_Pair_66.f 10 (movesOf a b q.f0 q.f1) p.f0 p.f1 = some (stepB q p) := by
 obtain ⟨q1, q2⟩ := (hasP_iff a b _ _).1 hq
 obtain ⟨p1, p2⟩ := (hasP_iff a b _ _).1 hp
 obtain ⟨q0, qb⟩ := q
 obtain ⟨p0, pb⟩ := p
 dsimp only at q1 q2 p1 p2 ⊢
 have hw : ∀ i : Nat, i ≤ 10 → wrap64 ((i : Int) + 1) = ((i + 1 : Nat) : Int) := fun i hi => by rw [w64' _ (by omega) (by omega)]; rfl
 have hgo : ∀ (l : List S25) (n j k : Nat), l.length - j = n → l.length ≤ 3 → j ≤ l.length → n + 1 ≤ k → (align_Pair_78.l0 k l (l.length : Int) (j : Int) p0 pb).bind (fun t => some (decide (t ≥ 0))) = some ((l.drop j).any fun x => p0 == x.f0 && pb == x.f1) := fun l n => by
  induction n with
  | zero =>
   intro j k h1 h2 h3 h4
   obtain ⟨k, rfl⟩ : ∃ k', k = k' + 1 := ⟨k - 1, by omega⟩
   rw [align_Pair_78.l0, if_neg (by omega), List.drop_eq_nil_of_le (by omega)]
   rfl
  | succ n ih =>
   intro j k h1 h2 h3 h4
   obtain ⟨k, rfl⟩ : ∃ k', k = k' + 1 := ⟨k - 1, by omega⟩
   have hj : j < l.length := by omega
   have hd : l.drop j = rd_T25 l j :: l.drop (j + 1) := by
    rw [List.drop_eq_getElem_cons hj]
    unfold rd_T25
    rw [Int.toNat_natCast, List.getD_eq_getElem?_getD, List.getElem?_eq_getElem hj]
    rfl
   rw [align_Pair_78.l0, if_pos (by omega), if_pos (by omega), if_pos (by omega), hd, List.any_cons, hw j (by omega)]
   by_cases c : (p0 == (rd_T25 l j).f0 && (pb == (rd_T25 l j).f1)) = true
   · rw [if_pos c, c]
     simp
   · rw [if_neg c]
     have c' : (p0 == (rd_T25 l j).f0 && (pb == (rd_T25 l j).f1)) = false := by simpa using c
     rw [c', ih (j + 1) k (by omega) h2 (by omega) (by omega)]
     simp
 have hlen : (movesOf a b q0 qb).length ≤ 3 := (moves_len a b q0 qb 3).1
 unfold align_Pair_66.f align_Pair_78.f
 refine (hgo (movesOf a b q0 qb) _ 0 10 rfl hlen (Nat.zero_le _) (by omega)).trans ?_
 congr 1
 rw [List.drop_zero, Bool.eq_iff_iff, List.any_eq_true]
 unfold stepB isIn
 constructor
 · rintro ⟨x, hx, hxe⟩
   have := (moves_mem hx).2
   simp only [Bool.and_eq_true, beq_iff_eq] at hxe
   rcases this with rfl | rfl | rfl <;> (simp only at hxe; simp; omega)
 · intro hs
   simp only [Bool.and_eq_true, decide_eq_true_eq, Bool.not_eq_true', beq_eq_false_iff_ne] at hs
   refine ⟨⟨p0, pb⟩, ?_, by simp⟩
   rw [moves_eq a b q0 qb q1 q2]
   have h3 : (p0 = q0 + 1 ∧ pb = qb + 1) ∨ (p0 = q0 + 1 ∧ pb = qb) ∨ (p0 = q0 ∧ pb = qb + 1) := by omega
   rcases h3 with ⟨rfl, rfl⟩ | ⟨rfl, rfl⟩ | ⟨rfl, rfl⟩
   · rw [if_pos (by omega)]; simp
   · simp only [List.mem_append]
     refine .inr (.inl ?_)
     rw [if_pos (by omega)]; simp
   · simp only [List.mem_append]
     refine .inr (.inr ?_)
     rw [if_pos (by omega)]; simp
/-- What holds at the head of the loop. -/
structure HtS (a b : List S59) (l : List S25) (i : Nat) (ht : Int) (w wr : World) : Prop where
 below : Below w.heap.size w wr
 eq : htFrom a b l l.length 0 0 = htFrom a b l (l.length - i) i ht
 has : ∀ j : Nat, j < i → hasP a b (rd_T25 l j).f0 (rd_T25 l j).f1 = true
theorem HtS.err {a b : List S59} {l : List S25} {i : Nat} {ht : Int} {w wr : World} (hs : HtS a b l i ht w wr) (hlt : i < l.length) {x : Int} (hx : htAt a b l i = x) (hne : x ≠ 0) : htFrom a b l l.length 0 0 = (0, x) := by
 rw [hs.eq, show l.length - i = (l.length - (i + 1)) + 1 by omega, htFrom, hx, if_neg hne]
theorem HtS.next {a b : List S59} {l : List S25} {i : Nat} {ht : Int} {w wr w' : World} (hs : HtS a b l i ht w wr) (hlt : i < l.length) (hx : htAt a b l i = 0) (hp : hasP a b (rd_T25 l i).f0 (rd_T25 l i).f1 = true) (hb : Below wr.heap.size wr w') : HtS a b l (i + 1) (mx ht (farD (rd_T59 a (rd_T25 l i).f0) (rd_T59 b (rd_T25 l i).f1))) w w' := by
 refine ⟨hs.below.trans (hb.mono hs.below.size), ?_, fun j hj => ?_⟩
 · rw [hs.eq, show l.length - i = (l.length - (i + 1)) + 1 by omega, htFrom, hx, if_pos rfl]
 · by_cases h1 : j = i
   · rw [h1]; exact hp
   · exact hs.has j (by omega)
section
attribute [local go_sem] max2_mxH max_two
set_option maxRecDepth 100000 in
set_option maxHeartbeats 4000000 in
theorem align_Height.calls (A0 : Option Addr) (c0 : Nat) (l0 : List S59) (A1 : Option Addr) (c1 : Nat) (l1 : List S59) (A3 : Option Addr) (c3 : Nat) (l3 : List S25) (r1 r2 : Int) (w : World) (hr0 : Kd.C k59 w A0 l0.length l0) (hc0 : l0.length ≤ c0) (hr1 : Kd.C k59 w A1 l1.length l1) (hc1 : l1.length ≤ c1) (hr3 : Kd.C k25 w A3 l3.length l3) (hc3 : l3.length ≤ c3) (hl : l3.length ≤ 1000000) (h : align_Height.f l0 l1 l3 = some (r1, r2)) :
  Calls Try.prog 35 #[.slice A0 l0.length c0, .slice A1 l1.length c1, .slice A3 l3.length c3] w fun e w' => e = .returned (.tuple #[.int .i64 r1, .int .i64 r2]) ∧ Below w.heap.size w w' := by
 have hu25 := Try.underlying25
 unfold align_Height.f at h
 obtain ⟨e, he, h⟩ := Option.bind_eq_some_iff.1 h
 have HR0 := Aside0.mk hr0
 have HR1 := Aside0.mk hr1
 have HR3 := Aside0.mk hr3
 have HE := Aside0.mk he
 have HC := Aside0.mk (And.intro hc0 (And.intro hc1 hc3))
 have HL := Aside0.mk hl
 have h1 := Option.some.inj h
 clear h he hr0 hr1 hr3 hc0 hc1 hc3 hl
 by_cases h0 : e = 0
 · subst h0
   rw [if_pos rfl] at h1
   have HO := Aside0.mk (rolls_of HE.out)
   by_cases hn : l3.length = 0
   · unfold htF at h1
     rw [if_pos hn] at h1
     obtain ⟨rfl, rfl⟩ := Prod.mk.inj h1
     rw [hn]
     go_enter Try.func35, Try.ntmps35
     go_wp2_with fail
     refine (newTable_ok A0 c0 l0 A1 c1 l1 _ HR0.out HC.out.1 HR1.out HC.out.2.1 HE.out).mono ?_
     rintro e w1 ⟨g, rfl, hT, _, hb⟩
     have HB := Aside0.mk hb
     clear hT hb hn
     go_wp2
     go_ret2
     exact ⟨rfl, HB.out⟩
   · have hnb : ((l3.length : Int) == 0) = false := beq_eq_false_iff_ne.mpr (by omega)
     have hnp : 0 < l3.length := Nat.pos_of_ne_zero hn
     unfold htF at h1
     rw [if_neg hn] at h1
     have HV := Aside0.mk h1
     clear h1
     go_enter Try.func35, Try.ntmps35
     go_wp2_with fail
     refine (newTable_ok A0 c0 l0 A1 c1 l1 _ HR0.out HC.out.1 HR1.out HC.out.2.1 HE.out).mono ?_
     rintro e w1 ⟨g, rfl, hT, _, hb⟩
     have HT := Aside0.mk hT
     have HB := Aside0.mk hb
     clear hT hb
     go_wp2
     go_loopw [10, 29] (fun s10 s29 wr => ∃ (i : Nat) (ht : Int), i ≤ l3.length ∧ s10 = .int .i64 ht ∧ s29 = .int .i64 i ∧ Aside0 (HtS l0 l1 l3 i ht w1 wr)) (fun _ s29 _ => l3.length - (intOf s29).toNat)
     case atStart => exact ⟨0, 0, by omega, rfl, rfl, ⟨Below.refl _ _, by simp, fun j hj => absurd hj (Nat.not_lt_zero j)⟩⟩
     case round =>
      obtain ⟨i, ht, hi, rfl, rfl, HS⟩ := hrel
      have HTW := Aside0.mk (HT.out.below HS.out.below)
      by_cases hlt : i < l3.length
      · have hdec : decide ((i : Int) < (l3.length : Int)) = true := decide_eq_true (by omega)
        have hC := Kd.C_below (Kd.C_below HR3.out HB.out) (HS.out.below)
        obtain ⟨ad, rfl, x0, x1⟩ := at_T25 hC i (by omega) (by omega)
        have HCC := Aside0.mk hC
        clear hC
        obtain ⟨p, hp⟩ : ∃ p, rd_T25 l3 i = p := ⟨_, rfl⟩
        rw [hp, Int.toNat_natCast] at x0 x1
        have HP := Aside0.mk hp
        have hbb := below_alloc (Below.refl wr.heap.size wr) (.cells #[.int .i64 p.f0, .int .i64 p.f1] 25)
        have hbn := blk_new wr (.cells #[.int .i64 p.f0, .int .i64 p.f1] 25)
        have HBB := Aside0.mk (And.intro hbb hbn)
        have hcall := has_calls g l0 l1 p.f0 p.f1 _ (HTW.out.below hbb)
        generalize hz : hasP l0 l1 p.f0 p.f1 = z at hcall
        have HCALL := Aside0.mk hcall
        have HZ := Aside0.mk hz
        clear hp hbb hbn hcall hz
        cases z with
        | false =>
         go_wp2_with (go_at_call 46; refine HCALL.out.mono ?_; rintro e w2 ⟨rfl, hb2⟩; have HB2 := Aside0.mk hb2; clear hb2)
         go_ret2
         have h8 : htAt l0 l1 l3 i = 8 := by unfold htAt; rw [HP.out, if_pos HZ.out]
         have hv := HV.out
         rw [HS.out.err hlt h8 (by decide)] at hv
         obtain ⟨rfl, rfl⟩ := Prod.mk.inj hv
         exact ⟨rfl, HB.out.trans ((HS.out.below.trans ((below_then HBB.out.1 HBB.out.1.size HB2.out).mono HS.out.below.size)).mono HB.out.size)⟩
        | true =>
         have hb13 := HBB.out.1
         by_cases hi0 : 0 < i
         · have hgt : decide ((i : Int) > 0) = true := decide_eq_true (by omega)
           have hgt2 : decide ((0 : Int) < i) = true := decide_eq_true (by omega)
           have hz1 : ¬ ((i : Int) = 0) := by omega
           have hz2 : ((i : Int) == 0) = false := beq_false_of_ne hz1
           obtain ⟨j, hj⟩ : ∃ j, j = i - 1 := ⟨_, rfl⟩
           have e1 : wrap64 ((i : Int) - 1) = (j : Int) := by rw [w64' _ (by omega) (by have := HL.out; omega)]; omega
           have e2 : j < l3.length := by omega
           obtain ⟨ad2, had, y0, y1⟩ := at_T25 HCC.out (j : Int) (by omega) (by omega)
           cases had
           obtain ⟨q, hq⟩ : ∃ q, rd_T25 l3 (j : Int) = q := ⟨_, rfl⟩
           have hqh : hasP l0 l1 q.f0 q.f1 = true := by rw [← hq]; exact HS.out.has j (by omega)
           have hqi := (hasP_iff l0 l1 _ _).1 hqh
           have HQI := Aside0.mk (show (0 ≤ q.f0 ∧ q.f0 ≤ 1000) ∧ (0 ≤ q.f1 ∧ q.f1 ≤ 1000) from ⟨⟨by omega, by have := HO.out.ha; omega⟩, ⟨by omega, by have := HO.out.hb; omega⟩⟩)
           rw [hq, Int.toNat_natCast] at y0 y1
           have HY := Aside0.mk (And.intro y0 y1)
           have HQ := Aside0.mk (And.intro hq hj)
           obtain ⟨mv, hmv⟩ : ∃ m, movesOf l0 l1 q.f0 q.f1 = m := ⟨_, rfl⟩
           have hcn := contains_f q p hqh HZ.out
           rw [hmv] at hcn
           have HMM := Aside0.mk hmv
           generalize hz3 : stepB q p = z2 at hcn
           have HZ2 := Aside0.mk hcn
           have HZ3 := Aside0.mk hz3
           clear hz3 hcn hmv hq hqh hqi y0 y1 hj
           go_wp2_with (go_at_call 46; refine HCALL.out.mono ?_; rintro e w2 ⟨rfl, hb2⟩; have HX2 := Aside0.mk (blk_below HBB.out.2 hb2); have HW2 := Aside0.mk (below_then HBB.out.1 HBB.out.1.size hb2); clear hb2)
           have hwd : Below wr.heap.size wr w2.drew := below_then HW2.out HW2.out.size (pw_below_drewN (Below.refl _ _) 1)
           have KK := Aside0.mk (And.intro (show w2.drew.cell? ⟨wr.heap.size, 0, none⟩ = some (.int .i64 p.f0) from (blk_cell HX2.out 0).trans rfl) (And.intro (show w2.drew.cell? ⟨wr.heap.size, 1, none⟩ = some (.int .i64 p.f1) from (blk_cell HX2.out 1).trans rfl) (And.intro (pw_cell_below hwd HY.out.1) (pw_cell_below hwd HY.out.2))))
           have HWD := Aside0.mk hwd
           have HTA := Aside0.mk (HTW.out.below hwd)
           clear hwd x0 x1
           refine start_ (n := 16) (S := fun w' => w'.cell? ⟨wr.heap.size, 0, none⟩ = some (.int .i64 p.f0) ∧ w'.cell? ⟨wr.heap.size, 1, none⟩ = some (.int .i64 p.f1) ∧ w'.cell? (ad.add (j * 2)) = some (.int .i64 q.f0) ∧ w'.cell? ⟨(ad.add (j * 2)).block, (ad.add (j * 2)).off + 1, none⟩ = some (.int .i64 q.f1)) (ds := []) #[false, false, false, false, false, false, false, false, false, false, false, false, false, false, false, false] (by kernel_rfl) rfl rfl KK.out (fun hHeld => ?_)
           refine with_tabW hgt14_tab hgt14_bits (fun HT_ HW_ => ?_)
           refine take_ (i := 0) (N := some 48) (v := ?_) (a' := ?_) #[true, false, false, false, false, false, false, false, false, false, false, false, false, false, false, false] rfl rfl (take_ofW HT_.out HW_.out (by kernel_rfl)) (fun _ _ _ h => h) (Or.inl ⟨by rfl, ?_⟩) hHeld ?_ ?_
           rotate_left
           · rintro w' ⟨s0, s1, s2, s3⟩
             go_simp
             with_reducible rfl
           rotate_left
           · simp only [Act.put, List.setIfInBounds_toArray, List.set_cons_zero, List.set_cons_succ, i64_w, i32_w]
             rfl
           refine take_ (i := 1) (N := some 49) (v := ?_) (a' := ?_) #[true, true, false, false, false, false, false, false, false, false, false, false, false, false, false, false] rfl rfl (take_ofW HT_.out HW_.out (by kernel_rfl)) (fun _ _ _ h => h) (Or.inl ⟨by rfl, ?_⟩) hHeld ?_ ?_
           rotate_left
           · rintro w' ⟨s0, s1, s2, s3⟩
             go_simp
             with_reducible rfl
           rotate_left
           · simp only [Act.put, List.setIfInBounds_toArray, List.set_cons_zero, List.set_cons_succ, i64_w, i32_w]
             rfl
           refine take_ (i := 2) (N := some 50) (v := ?_) (a' := ?_) #[true, true, true, false, false, false, false, false, false, false, false, false, false, false, false, false] rfl rfl (take_ofW HT_.out HW_.out (by kernel_rfl)) (fun _ _ _ h => h) (Or.inl ⟨by rfl, ?_⟩) hHeld ?_ ?_
           rotate_left
           · rintro w' ⟨s0, s1, s2, s3⟩
             go_simp
             with_reducible rfl
           rotate_left
           · simp only [Act.put, List.setIfInBounds_toArray, List.set_cons_zero, List.set_cons_succ, i64_w, i32_w]
             rfl
           generalize w2.drew = wA at KK HWD HTA hHeld ⊢
           refine take_ (i := 3) (N := some 51) (v := ?_) (a' := ?_) #[true, true, true, true, false, false, false, false, false, false, false, false, false, false, false, false] rfl rfl (take_ofW HT_.out HW_.out (by kernel_rfl)) (fun _ _ _ h => h) (Or.inl ⟨by rfl, ?_⟩) hHeld ?_ ?_
           rotate_left
           · rintro w' ⟨s0, s1, s2, s3⟩
             go_simp
             with_reducible rfl
           rotate_left
           · simp only [Act.put, List.setIfInBounds_toArray, List.set_cons_zero, List.set_cons_succ, i64_w, i32_w]
             rfl
           refine take_ (i := 4) (N := some 52) (v := ?_) (a' := ?_) #[true, true, true, true, true, false, false, false, false, false, false, false, false, false, false, false] rfl rfl (take_ofW HT_.out HW_.out (by kernel_rfl)) (fun _ _ _ h => h) (Or.inl ⟨by rfl, ?_⟩) hHeld ?_ ?_
           rotate_left
           · rintro w' ⟨s0, s1, s2, s3⟩
             go_simp
             with_reducible rfl
           rotate_left
           · simp only [Act.put, List.setIfInBounds_toArray, List.set_cons_zero, List.set_cons_succ, i64_w, i32_w]
             rfl
           refine take_ (i := 5) (N := some 53) (v := ?_) (a' := ?_) #[true, true, true, true, true, true, false, false, false, false, false, false, false, false, false, false] rfl rfl (take_ofW HT_.out HW_.out (by kernel_rfl)) (fun _ _ _ h => h) (Or.inl ⟨by rfl, ?_⟩) hHeld ?_ ?_
           rotate_left
           · rintro w' ⟨s0, s1, s2, s3⟩
             go_simp
             with_reducible rfl
           rotate_left
           · simp only [Act.put, List.setIfInBounds_toArray, List.set_cons_zero, List.set_cons_succ, i64_w, i32_w]
             rfl
           refine take_ (i := 6) (N := some 54) (v := ?_) (a' := ?_) #[true, true, true, true, true, true, true, false, false, false, false, false, false, false, false, false] rfl rfl (take_ofW HT_.out HW_.out (by kernel_rfl)) (fun _ _ _ h => h) (Or.inl ⟨by rfl, ?_⟩) hHeld ?_ ?_
           rotate_left
           · rintro w' ⟨s0, s1, s2, s3⟩
             go_simp
             with_reducible rfl
           rotate_left
           · simp only [Act.put, List.setIfInBounds_toArray, List.set_cons_zero, List.set_cons_succ, i64_w, i32_w]
             rfl
           refine take_ (i := 7) (N := some 55) (v := ?_) (a' := ?_) #[true, true, true, true, true, true, true, true, false, false, false, false, false, false, false, false] rfl rfl (take_ofW HT_.out HW_.out (by kernel_rfl)) (fun _ _ _ h => h) (Or.inl ⟨by rfl, ?_⟩) hHeld ?_ ?_
           rotate_left
           · rintro w' ⟨s0, s1, s2, s3⟩
             go_simp
             with_reducible rfl
           rotate_left
           · simp only [Act.put, List.setIfInBounds_toArray, List.set_cons_zero, List.set_cons_succ, i64_w, i32_w]
             rfl
           refine take_ (i := 8) (N := some 56) (v := ?_) (a' := ?_) #[true, true, true, true, true, true, true, true, true, false, false, false, false, false, false, false] rfl rfl (take_ofW HT_.out HW_.out (by kernel_rfl)) (fun _ _ _ h => h) (Or.inl ⟨by rfl, ?_⟩) hHeld ?_ ?_
           rotate_left
           · rintro w' ⟨s0, s1, s2, s3⟩
             go_simp
             with_reducible rfl
           rotate_left
           · simp only [Act.put, List.setIfInBounds_toArray, List.set_cons_zero, List.set_cons_succ, i64_w, i32_w]
             rfl
           refine take_ (i := 11) (N := some 59) (v := ?_) (a' := ?_) #[true, true, true, true, true, true, true, true, true, false, false, true, false, false, false, false] rfl rfl (take_ofW HT_.out HW_.out (by kernel_rfl)) (fun _ _ _ h => h) (Or.inl ⟨by rfl, ?_⟩) hHeld ?_ ?_
           rotate_left
           · rintro w' ⟨s0, s1, s2, s3⟩
             go_simp
             with_reducible rfl
           rotate_left
           · simp only [Act.put, List.setIfInBounds_toArray, List.set_cons_zero, List.set_cons_succ, i64_w, i32_w]
             rfl
           refine one_ (i := 9) (N := some 57) #[true, true, true, true, true, true, true, true, true, true, false, true, false, false, false, false] rfl rfl (one_of HT_.out (by kernel_rfl)) (by decide) (fun K hK => ?_)
           refine goes_ Try.func52 (by kernel_rfl) rfl #[.pointer (some ⟨g, 0, none⟩), .agg #[.int .i64 q.f0, .int .i64 q.f1]] (by rfl) rfl rfl (by (try simp only [List.map_toArray, List.map_cons, List.map_nil]); first | done | rfl) ?_
           refine (callsIn_wide.1 (moves_in 3 g q.f0 q.f1 wA)).mono ?_
           rintro e w3 ⟨rfl, hw3⟩
           refine ⟨_, rfl, ?_⟩
           have hbb : Below wA.heap.size wA w3 := by rw [hw3]; exact below_alloc (below_alloc (Below.refl _ _) _) _
           have hbt : w3.heap[wA.heap.size]? = some (.cells #[.pointer (some ⟨g, 0, none⟩)] 80 (0, 0)) := by rw [hw3]; exact blk_alloc (blk_new wA _) _
           have hbp : w3.heap[wA.heap.size + 1]? = some (.cells #[.int .i64 q.f0, .int .i64 q.f1] 25 (0, 0)) := by rw [hw3]; have := blk_new (wA.alloc (.cells #[.pointer (some ⟨g, 0, none⟩)] 80)) (.cells #[.int .i64 q.f0, .int .i64 q.f1] 25); rw [World.size_alloc] at this; exact this
           have HMV := Aside0.mk (And.intro hbt (And.intro ((blk_cell hbp 0).trans rfl : w3.cell? ⟨wA.heap.size + 1, 0, none⟩ = some (.int .i64 q.f0)) (And.intro ((blk_cell hbp 1).trans rfl : w3.cell? ⟨wA.heap.size + 1, 1, none⟩ = some (.int .i64 q.f1)) (HTA.out.below hbb))))
           replace KK := Aside0.mk (And.intro (pw_cell_below hbb KK.out.1) (And.intro (pw_cell_below hbb KK.out.2.1) (And.intro (pw_cell_below hbb KK.out.2.2.1) (pw_cell_below hbb KK.out.2.2.2))))
           have HB3 := Aside0.mk (below_then HWD.out HWD.out.size hbb)
           clear hbb hbt hbp hw3
           refine hK.out _ _ KK.out (fun hHeld => ?_)
           clear hK K
           refine norm_ (a' := ?_) ?_ ?_
           rotate_left
           · show Act.put _ (some 57) _ = _
             simp only [Act.put, List.setIfInBounds_toArray, List.set_cons_zero, List.set_cons_succ, i64_w, i32_w]
             rfl
           refine one_ (i := 10) (N := some 58) #[true, true, true, true, true, true, true, true, true, true, true, true, false, false, false, false] rfl rfl (one_of HT_.out (by kernel_rfl)) (by decide) (fun K hK => ?_)
           refine goes_ Try.func67 (by kernel_rfl) rfl #[.func (.func 72) #[] #[.pointer (some ⟨wA.heap.size + 1, 0, none⟩), .pointer (some ⟨wA.heap.size, 0, none⟩)]] (by rfl) rfl rfl (by (try simp only [List.map_toArray, List.map_cons, List.map_nil]); first | done | rfl) ?_
           refine (collect_calls g (wA.heap.size + 1) wA.heap.size l0 l1 q.f0 q.f1 w3 HMV.out.2.1 HMV.out.2.2.1 HMV.out.1 HMV.out.2.2.2 HQI.out.1 HQI.out.2).mono ?_
           rintro e w4 ⟨Am, cm, rfl, hcm, hCm, hbb⟩
           refine ⟨_, rfl, ?_⟩
           rw [HMM.out] at hcm hCm ⊢
           have HCM := Aside0.mk (And.intro hcm hCm)
           replace KK := Aside0.mk (And.intro (pw_cell_below hbb KK.out.1) (And.intro (pw_cell_below hbb KK.out.2.1) (And.intro (pw_cell_below hbb KK.out.2.2.1) (pw_cell_below hbb KK.out.2.2.2))))
           have HB4 := Aside0.mk (below_then HB3.out HB3.out.size hbb)
           clear hbb hcm hCm
           refine hK.out _ _ KK.out (fun hHeld => ?_)
           clear hK K
           refine norm_ (a' := ?_) ?_ ?_
           rotate_left
           · show Act.put _ (some 58) _ = _
             simp only [Act.put, List.setIfInBounds_toArray, List.set_cons_zero, List.set_cons_succ, i64_w, i32_w]
             rfl
           refine one_ (i := 12) (N := some 60) #[true, true, true, true, true, true, true, true, true, true, true, true, true, false, false, false] rfl rfl (one_of HT_.out (by kernel_rfl)) (by decide) (fun K hK => ?_)
           refine goes_ Try.func66 (by kernel_rfl) rfl #[.slice Am mv.length cm, .agg #[.int .i64 p.f0, .int .i64 p.f1]] (by rfl) rfl rfl (by (try simp only [List.map_toArray, List.map_cons, List.map_nil]); first | done | rfl) ?_
           refine (align_Pair_66.calls 10 Am cm mv p.f0 p.f1 z2 w4 HCM.out.2 HCM.out.1 HZ2.out).mono ?_
           rintro e w5 ⟨rfl, hbb⟩
           refine ⟨_, rfl, ?_⟩
           replace KK := Aside0.mk (And.intro (pw_cell_below hbb KK.out.1) (And.intro (pw_cell_below hbb KK.out.2.1) (And.intro (pw_cell_below hbb KK.out.2.2.1) (pw_cell_below hbb KK.out.2.2.2))))
           have HW3 := Aside0.mk (below_then HB4.out HB4.out.size hbb)
           clear hbb
           refine hK.out _ _ KK.out (fun hHeld => ?_)
           clear hK K
           refine norm_ (a' := ?_) ?_ ?_
           rotate_left
           · show Act.put _ (some 60) _ = _
             simp only [Act.put, List.setIfInBounds_toArray, List.set_cons_zero, List.set_cons_succ, i64_w, i32_w]
             rfl
           refine take_ (i := 13) (N := some 61) (v := ?_) (a' := ?_) #[true, true, true, true, true, true, true, true, true, true, true, true, true, true, false, false] rfl rfl (take_ofW HT_.out HW_.out (by kernel_rfl)) (fun _ _ _ h => h) (Or.inl ⟨by rfl, ?_⟩) hHeld ?_ ?_
           rotate_left
           · rintro w' ⟨s0, s1, s2, s3⟩
             go_simp
             with_reducible rfl
           rotate_left
           · simp only [Act.put, List.setIfInBounds_toArray, List.set_cons_zero, List.set_cons_succ, i64_w, i32_w]
             rfl
           refine take_ (i := 14) (N := some 62) (v := ?_) (a' := ?_) #[true, true, true, true, true, true, true, true, true, true, true, true, true, true, true, false] rfl rfl (take_ofW HT_.out HW_.out (by kernel_rfl)) (fun _ _ _ h => h) (Or.inl ⟨by rfl, ?_⟩) hHeld ?_ ?_
           rotate_left
           · rintro w' ⟨s0, s1, s2, s3⟩
             go_simp
             with_reducible rfl
           rotate_left
           · simp only [Act.put, List.setIfInBounds_toArray, List.set_cons_zero, List.set_cons_succ, i64_w, i32_w]
             rfl
           refine take_ (i := 15) (N := some 47) (v := ?_) (a' := ?_) #[true, true, true, true, true, true, true, true, true, true, true, true, true, true, true, true] rfl rfl (take_ofW HT_.out HW_.out (by kernel_rfl)) (fun _ _ _ h => h) (Or.inl ⟨by rfl, ?_⟩) hHeld ?_ ?_
           rotate_left
           · rintro w' ⟨s0, s1, s2, s3⟩
             go_simp
             with_reducible rfl
           rotate_left
           · simp only [Act.put, List.setIfInBounds_toArray, List.set_cons_zero, List.set_cons_succ, i64_w, i32_w]
             rfl
           refine done_ (done_of HT_.out (by kernel_rfl)) ?_
           cases z2 with
           | false =>
            go_wp2
            go_ret2
            have h7 : htAt l0 l1 l3 i = 7 := by unfold htAt; rw [HP.out, ← HQ.out.2, HQ.out.1, if_neg (by rw [HZ.out]; decide), if_neg (show ¬ i = 0 by omega), if_pos HZ3.out]
            have hv := HV.out
            rw [HS.out.err hlt h7 (by decide)] at hv
            obtain ⟨rfl, rfl⟩ := Prod.mk.inj hv
            exact ⟨rfl, HB.out.trans ((HS.out.below.trans (HW3.out.mono HS.out.below.size)).mono HB.out.size)⟩
           | true =>
            have hpp := (hasP_iff l0 l1 _ _).1 HZ.out
            have d0 := KK.out.1
            have d1 := KK.out.2.1
            go_wp2_with (go_at_call 47; refine (far_calls g l0 l1 p.f0 p.f1 _ (HTW.out.below HW3.out) HO.out hpp.1.1 hpp.1.2 hpp.2.1 hpp.2.2).mono ?_; rintro e w6 ⟨rfl, hb4⟩; have HW4 := Aside0.mk (below_then HW3.out HW3.out.size hb4); clear hb4)
            have h0 : htAt l0 l1 l3 (i) = 0 := by unfold htAt; rw [HP.out, ← HQ.out.2, HQ.out.1, if_neg (by rw [HZ.out]; decide), if_neg (show ¬ i = 0 by omega), if_neg (by rw [HZ3.out]; decide)]
            have hwi : wrap64 ((i : Int) + 1) = ((i + 1 : Nat) : Int) := by rw [w64' _ (by omega) (by have := HL.out; omega)]; rfl
            (try rw [hwi])
            clear hwi
            refine ⟨⟨i + 1, mx ht (farD (rd_T59 l0 p.f0) (rd_T59 l1 p.f1)), hlt, rfl, rfl, ⟨by have := HS.out.next hlt h0 (by rw [HP.out]; exact HZ.out) HW4.out; rw [HP.out] at this; exact this⟩⟩, by show l3.length - (((i + 1 : Nat) : Int)).toNat < l3.length - ((i : Int)).toNat; omega⟩
         · have hgt : decide ((i : Int) > 0) = false := decide_eq_false (by omega)
           have hgt2 : decide ((0 : Int) < (i : Int)) = false := decide_eq_false (by omega)
           have hz2 : ((i : Int) == 0) = true := beq_iff_eq.2 (by omega)
           have hz3 : decide ((i : Int) = 0) = true := decide_eq_true (by omega)
           have HI0 := Aside0.mk (show i = 0 by omega)

           by_cases hpz : p.f0 = 0 ∧ p.f1 = 0
           · have b0 : (p.f0 == 0 && p.f1 == 0) = true := by simp [hpz.1, hpz.2]
             have HPZ := Aside0.mk hpz
             clear hpz
             go_wp2_with (go_at_call 46; refine HCALL.out.mono ?_; rintro e w2 ⟨rfl, hb2⟩; have HX2 := Aside0.mk (blk_below HBB.out.2 hb2); have HW2 := Aside0.mk (below_then HBB.out.1 HBB.out.1.size hb2); have d0 : w2.cell? ⟨wr.heap.size, 0, none⟩ = some (.int .i64 p.f0) := (blk_cell HX2.out 0).trans rfl; have d1 : w2.cell? ⟨wr.heap.size, 1, none⟩ = some (.int .i64 p.f1) := (blk_cell HX2.out 1).trans rfl; clear hb2)
             have KK := Aside0.mk (And.intro (show w2.drew.cell? ⟨wr.heap.size, 0, none⟩ = some (.int .i64 p.f0) from (blk_cell HX2.out 0).trans rfl) (show w2.drew.cell? ⟨wr.heap.size, 1, none⟩ = some (.int .i64 p.f1) from (blk_cell HX2.out 1).trans rfl))
             have HW3 := Aside0.mk (show Below wr.heap.size wr w2.drew from below_then HW2.out HW2.out.size (pw_below_drewN (Below.refl _ _) 1))
             clear x0 x1 d0 d1 hz2 hz3
             refine start_ (n := 16) (S := fun w' => w'.cell? ⟨wr.heap.size, 0, none⟩ = some (.int .i64 p.f0) ∧ w'.cell? ⟨wr.heap.size, 1, none⟩ = some (.int .i64 p.f1)) (ds := []) #[false, false, false, false, false, false, false, false, false, false, false, false, false, false, false, false] (by kernel_rfl) rfl rfl KK.out (fun hHeld => ?_)
             refine with_tabW hgt14_tab hgt14_bits (fun HT_ HW_ => ?_)
             refine take_ (i := 0) (N := some 48) (v := ?_) (a' := ?_) #[true, false, false, false, false, false, false, false, false, false, false, false, false, false, false, false] rfl rfl (take_ofW HT_.out HW_.out (by kernel_rfl)) (fun _ _ _ h => h) (Or.inl ⟨by rfl, ?_⟩) hHeld ?_ ?_
             rotate_left
             · rintro w' ⟨s0, s1⟩
               go_simp
               with_reducible rfl
             rotate_left
             · simp only [Act.put, List.setIfInBounds_toArray, List.set_cons_zero, List.set_cons_succ, i64_w, i32_w]
               rfl
             refine take_ (i := 1) (N := some 49) (v := ?_) (a' := ?_) #[true, true, false, false, false, false, false, false, false, false, false, false, false, false, false, false] rfl rfl (take_ofW HT_.out HW_.out (by kernel_rfl)) (fun _ _ _ h => h) (Or.inl ⟨by rfl, ?_⟩) hHeld ?_ ?_
             rotate_left
             · rintro w' ⟨s0, s1⟩
               go_simp
               with_reducible rfl
             rotate_left
             · simp only [Act.put, List.setIfInBounds_toArray, List.set_cons_zero, List.set_cons_succ, i64_w, i32_w]
               rfl
             refine take_ (i := 2) (N := some 50) (v := ?_) (a' := ?_) #[true, true, true, false, false, false, false, false, false, false, false, false, false, false, false, false] rfl rfl (take_ofW HT_.out HW_.out (by kernel_rfl)) (fun _ _ _ h => h) (Or.inl ⟨by rfl, ?_⟩) hHeld ?_ ?_
             rotate_left
             · rintro w' ⟨s0, s1⟩
               go_simp
               with_reducible rfl
             rotate_left
             · simp only [Act.put, List.setIfInBounds_toArray, List.set_cons_zero, List.set_cons_succ, i64_w, i32_w]
               rfl
             generalize w2.drew = w5 at KK HW3 hHeld ⊢
             refine take_ (i := 3) (N := some 51) (v := undef) (a' := ?_) #[true, true, true, true, false, false, false, false, false, false, false, false, false, false, false, false] rfl rfl (take_ofW HT_.out HW_.out (by kernel_rfl)) (fun _ _ _ h => h) (Or.inr ⟨by rfl, rfl⟩) hHeld ?_ ?_
             rotate_left
             · simp only [Act.put, List.setIfInBounds_toArray, List.set_cons_zero, List.set_cons_succ, i64_w, i32_w]
               rfl
             refine take_ (i := 4) (N := some 52) (v := undef) (a' := ?_) #[true, true, true, true, true, false, false, false, false, false, false, false, false, false, false, false] rfl rfl (take_ofW HT_.out HW_.out (by kernel_rfl)) (fun _ _ _ h => h) (Or.inr ⟨by rfl, rfl⟩) hHeld ?_ ?_
             rotate_left
             · simp only [Act.put, List.setIfInBounds_toArray, List.set_cons_zero, List.set_cons_succ, i64_w, i32_w]
               rfl
             refine take_ (i := 5) (N := some 53) (v := undef) (a' := ?_) #[true, true, true, true, true, true, false, false, false, false, false, false, false, false, false, false] rfl rfl (take_ofW HT_.out HW_.out (by kernel_rfl)) (fun _ _ _ h => h) (Or.inr ⟨by rfl, rfl⟩) hHeld ?_ ?_
             rotate_left
             · simp only [Act.put, List.setIfInBounds_toArray, List.set_cons_zero, List.set_cons_succ, i64_w, i32_w]
               rfl
             refine take_ (i := 6) (N := some 54) (v := undef) (a' := ?_) #[true, true, true, true, true, true, true, false, false, false, false, false, false, false, false, false] rfl rfl (take_ofW HT_.out HW_.out (by kernel_rfl)) (fun _ _ _ h => h) (Or.inr ⟨by rfl, rfl⟩) hHeld ?_ ?_
             rotate_left
             · simp only [Act.put, List.setIfInBounds_toArray, List.set_cons_zero, List.set_cons_succ, i64_w, i32_w]
               rfl
             refine take_ (i := 7) (N := some 55) (v := undef) (a' := ?_) #[true, true, true, true, true, true, true, true, false, false, false, false, false, false, false, false] rfl rfl (take_ofW HT_.out HW_.out (by kernel_rfl)) (fun _ _ _ h => h) (Or.inr ⟨by rfl, rfl⟩) hHeld ?_ ?_
             rotate_left
             · simp only [Act.put, List.setIfInBounds_toArray, List.set_cons_zero, List.set_cons_succ, i64_w, i32_w]
               rfl
             refine take_ (i := 8) (N := some 56) (v := undef) (a' := ?_) #[true, true, true, true, true, true, true, true, true, false, false, false, false, false, false, false] rfl rfl (take_ofW HT_.out HW_.out (by kernel_rfl)) (fun _ _ _ h => h) (Or.inr ⟨by rfl, rfl⟩) hHeld ?_ ?_
             rotate_left
             · simp only [Act.put, List.setIfInBounds_toArray, List.set_cons_zero, List.set_cons_succ, i64_w, i32_w]
               rfl
             refine take_ (i := 9) (N := some 57) (v := undef) (a' := ?_) #[true, true, true, true, true, true, true, true, true, true, false, false, false, false, false, false] rfl rfl (take_ofW HT_.out HW_.out (by kernel_rfl)) (fun _ _ _ h => h) (Or.inr ⟨by rfl, rfl⟩) hHeld ?_ ?_
             rotate_left
             · simp only [Act.put, List.setIfInBounds_toArray, List.set_cons_zero, List.set_cons_succ, i64_w, i32_w]
               rfl
             refine take_ (i := 10) (N := some 58) (v := undef) (a' := ?_) #[true, true, true, true, true, true, true, true, true, true, true, false, false, false, false, false] rfl rfl (take_ofW HT_.out HW_.out (by kernel_rfl)) (fun _ _ _ h => h) (Or.inr ⟨by rfl, rfl⟩) hHeld ?_ ?_
             rotate_left
             · simp only [Act.put, List.setIfInBounds_toArray, List.set_cons_zero, List.set_cons_succ, i64_w, i32_w]
               rfl
             refine take_ (i := 11) (N := some 59) (v := undef) (a' := ?_) #[true, true, true, true, true, true, true, true, true, true, true, true, false, false, false, false] rfl rfl (take_ofW HT_.out HW_.out (by kernel_rfl)) (fun _ _ _ h => h) (Or.inr ⟨by rfl, rfl⟩) hHeld ?_ ?_
             rotate_left
             · simp only [Act.put, List.setIfInBounds_toArray, List.set_cons_zero, List.set_cons_succ, i64_w, i32_w]
               rfl
             refine take_ (i := 12) (N := some 60) (v := undef) (a' := ?_) #[true, true, true, true, true, true, true, true, true, true, true, true, true, false, false, false] rfl rfl (take_ofW HT_.out HW_.out (by kernel_rfl)) (fun _ _ _ h => h) (Or.inr ⟨by rfl, rfl⟩) hHeld ?_ ?_
             rotate_left
             · simp only [Act.put, List.setIfInBounds_toArray, List.set_cons_zero, List.set_cons_succ, i64_w, i32_w]
               rfl
             refine take_ (i := 13) (N := some 61) (v := undef) (a' := ?_) #[true, true, true, true, true, true, true, true, true, true, true, true, true, true, false, false] rfl rfl (take_ofW HT_.out HW_.out (by kernel_rfl)) (fun _ _ _ h => h) (Or.inr ⟨by rfl, rfl⟩) hHeld ?_ ?_
             rotate_left
             · simp only [Act.put, List.setIfInBounds_toArray, List.set_cons_zero, List.set_cons_succ, i64_w, i32_w]
               rfl
             refine take_ (i := 14) (N := some 62) (v := ?_) (a' := ?_) #[true, true, true, true, true, true, true, true, true, true, true, true, true, true, true, false] rfl rfl (take_ofW HT_.out HW_.out (by kernel_rfl)) (fun _ _ _ h => h) (Or.inl ⟨by rfl, ?_⟩) hHeld ?_ ?_
             rotate_left
             · rintro w' ⟨s0, s1⟩
               go_simp
               with_reducible rfl
             rotate_left
             · simp only [Act.put, List.setIfInBounds_toArray, List.set_cons_zero, List.set_cons_succ, i64_w, i32_w]
               rfl
             refine take_ (i := 15) (N := some 47) (v := ?_) (a' := ?_) #[true, true, true, true, true, true, true, true, true, true, true, true, true, true, true, true] rfl rfl (take_ofW HT_.out HW_.out (by kernel_rfl)) (fun _ _ _ h => h) (Or.inl ⟨by rfl, ?_⟩) hHeld ?_ ?_
             rotate_left
             · rintro w' ⟨s0, s1⟩
               go_simp
               with_reducible rfl
             rotate_left
             · simp only [Act.put, List.setIfInBounds_toArray, List.set_cons_zero, List.set_cons_succ, i64_w, i32_w]
               rfl
             refine done_ (done_of HT_.out (by kernel_rfl)) ?_
             have hpp := (hasP_iff l0 l1 _ _).1 HZ.out
             have d0 := KK.out.1
             have d1 := KK.out.2
             go_wp2_with (go_at_call 47; refine (far_calls g l0 l1 p.f0 p.f1 _ (HTW.out.below HW3.out) HO.out hpp.1.1 hpp.1.2 hpp.2.1 hpp.2.2).mono ?_; rintro e w6 ⟨rfl, hb4⟩; have HW4 := Aside0.mk (below_then HW3.out HW3.out.size hb4); clear hb4)
             have h0 : htAt l0 l1 l3 (i) = 0 := by unfold htAt; rw [HP.out, if_neg (by rw [HZ.out]; decide), if_pos HI0.out, if_pos HPZ.out]
             have hwi : wrap64 ((i : Int) + 1) = ((i + 1 : Nat) : Int) := by rw [w64' _ (by omega) (by have := HL.out; omega)]; rfl
             (try rw [hwi])
             clear hwi
             refine ⟨⟨i + 1, mx ht (farD (rd_T59 l0 p.f0) (rd_T59 l1 p.f1)), hlt, rfl, rfl, ⟨by have := HS.out.next hlt h0 (by rw [HP.out]; exact HZ.out) HW4.out; rw [HP.out] at this; exact this⟩⟩, by show l3.length - (((i + 1 : Nat) : Int)).toNat < l3.length - ((i : Int)).toNat; omega⟩
           · have b0 : (p.f0 == 0 && p.f1 == 0) = false := by
              cases h : (p.f0 == 0 && p.f1 == 0) with
              | false => rfl
              | true => simp at h; exact absurd h hpz
             have HPZ := Aside0.mk hpz
             clear hpz
             go_wp2_with (go_at_call 46; refine HCALL.out.mono ?_; rintro e w2 ⟨rfl, hb2⟩; have HX2 := Aside0.mk (blk_below HBB.out.2 hb2); have HW2 := Aside0.mk (below_then HBB.out.1 HBB.out.1.size hb2); have d0 : w2.cell? ⟨wr.heap.size, 0, none⟩ = some (.int .i64 p.f0) := (blk_cell HX2.out 0).trans rfl; have d1 : w2.cell? ⟨wr.heap.size, 1, none⟩ = some (.int .i64 p.f1) := (blk_cell HX2.out 1).trans rfl; clear hb2)
             go_ret2
             have h7 : htAt l0 l1 l3 i = 7 := by unfold htAt; rw [HP.out, if_neg (by rw [HZ.out]; decide), if_pos HI0.out, if_neg HPZ.out]
             have hv := HV.out
             rw [HS.out.err hlt h7 (by decide)] at hv
             obtain ⟨rfl, rfl⟩ := Prod.mk.inj hv
             exact ⟨rfl, HB.out.trans ((HS.out.below.trans (HW2.out.mono HS.out.below.size)).mono HB.out.size)⟩
      · have hdec : decide ((i : Int) < (l3.length : Int)) = false := decide_eq_false (by omega)
        obtain rfl : i = l3.length := by omega
        have hv := HV.out
        rw [HS.out.eq, Nat.sub_self, htFrom] at hv
        have HV2 := Aside0.mk hv
        clear hv
        have hC := Kd.C_below (Kd.C_below HR3.out HB.out) (HS.out.below)
        obtain ⟨L1, hL1⟩ : ∃ L1, L1 = l3.length - 1 := ⟨_, rfl⟩
        obtain ⟨ad, rfl, y0, y1⟩ := at_T25 hC (L1 : Int) (by omega) (by omega)
        have e1 : wrap64 ((l3.length : Int) - 1) = (L1 : Int) := by rw [w64' _ (by omega) (by have := HL.out; omega)]; omega
        have e2 : L1 < l3.length := by omega
        rw [← hL1] at HV2
        obtain ⟨q, hq⟩ : ∃ q, rd_T25 l3 (L1 : Int) = q := ⟨_, rfl⟩
        rw [hq] at HV2
        rw [hq, Int.toNat_natCast] at y0 y1
        obtain ⟨At0, ct0, At1, ct1, hTb, _, _⟩ := HTW.out
        obtain ⟨n1, hn1⟩ : ∃ n1, n1 = (l0.length : Int) - 1 := ⟨_, rfl⟩
        obtain ⟨m1, hm1⟩ : ∃ m1, m1 = (l1.length : Int) - 1 := ⟨_, rfl⟩
        rw [← hn1, ← hm1] at hTb HV2
        have g2 : wr.cell? ⟨g, 2, none⟩ = some (.int .i64 n1) := (blk_cell hTb 2).trans rfl
        have g3 : wr.cell? ⟨g, 3, none⟩ = some (.int .i64 m1) := (blk_cell hTb 3).trans rfl
        have hwd : Below wr.heap.size wr wr.drew := pw_below_drewN (Below.refl _ _) 1
        have KK := Aside0.mk (And.intro (pw_cell_below hwd y0) (And.intro (pw_cell_below hwd y1) (And.intro (pw_cell_below hwd g2) (pw_cell_below hwd g3))))
        have HWD := Aside0.mk hwd
        clear hL1 hq hn1 hm1 hTb g2 g3 y0 y1 hC hwd
        by_cases hz : q.f0 = n1 ∧ q.f1 = m1
        · have b0 : (q.f0 == n1 && q.f1 == m1) = true := by simp [hz.1, hz.2]
          have HZZ := Aside0.mk hz
          clear hz
          go_upto_region 18 with fail
          refine start_ (n := 11) (S := fun w' => w'.cell? (ad.add (L1 * 2)) = some (.int .i64 q.f0) ∧ w'.cell? ⟨(ad.add (L1 * 2)).block, (ad.add (L1 * 2)).off + 1, none⟩ = some (.int .i64 q.f1) ∧ w'.cell? ⟨g, 2, none⟩ = some (.int .i64 n1) ∧ w'.cell? ⟨g, 3, none⟩ = some (.int .i64 m1)) (ds := []) #[false, false, false, false, false, false, false, false, false, false, false] (by kernel_rfl) rfl rfl KK.out (fun hHeld => ?_)
          refine with_tabW hgt18_tab hgt18_bits (fun HT_ HW_ => ?_)
          refine take_ (i := 0) (N := some 69) (v := ?_) (a' := ?_) #[true, false, false, false, false, false, false, false, false, false, false] rfl rfl (take_ofW HT_.out HW_.out (by kernel_rfl)) (fun _ _ _ h => h) (Or.inl ⟨by rfl, ?_⟩) hHeld ?_ ?_
          rotate_left
          · rintro w' ⟨s0, s1, s2, s3⟩
            go_simp
            with_reducible rfl
          rotate_left
          · simp only [Act.put, List.setIfInBounds_toArray, List.set_cons_zero, List.set_cons_succ, i64_w, i32_w]
            rfl
          refine take_ (i := 1) (N := some 70) (v := ?_) (a' := ?_) #[true, true, false, false, false, false, false, false, false, false, false] rfl rfl (take_ofW HT_.out HW_.out (by kernel_rfl)) (fun _ _ _ h => h) (Or.inl ⟨by rfl, ?_⟩) hHeld ?_ ?_
          rotate_left
          · rintro w' ⟨s0, s1, s2, s3⟩
            go_simp
            with_reducible rfl
          rotate_left
          · simp only [Act.put, List.setIfInBounds_toArray, List.set_cons_zero, List.set_cons_succ, i64_w, i32_w]
            rfl
          refine take_ (i := 2) (N := some 71) (v := ?_) (a' := ?_) #[true, true, true, false, false, false, false, false, false, false, false] rfl rfl (take_ofW HT_.out HW_.out (by kernel_rfl)) (fun _ _ _ h => h) (Or.inl ⟨by rfl, ?_⟩) hHeld ?_ ?_
          rotate_left
          · rintro w' ⟨s0, s1, s2, s3⟩
            go_simp
            with_reducible rfl
          rotate_left
          · simp only [Act.put, List.setIfInBounds_toArray, List.set_cons_zero, List.set_cons_succ, i64_w, i32_w]
            rfl
          refine take_ (i := 3) (N := some 72) (v := ?_) (a' := ?_) #[true, true, true, true, false, false, false, false, false, false, false] rfl rfl (take_ofW HT_.out HW_.out (by kernel_rfl)) (fun _ _ _ h => h) (Or.inl ⟨by rfl, ?_⟩) hHeld ?_ ?_
          rotate_left
          · rintro w' ⟨s0, s1, s2, s3⟩
            go_simp
            with_reducible rfl
          rotate_left
          · simp only [Act.put, List.setIfInBounds_toArray, List.set_cons_zero, List.set_cons_succ, i64_w, i32_w]
            rfl
          refine take_ (i := 4) (N := some 73) (v := ?_) (a' := ?_) #[true, true, true, true, true, false, false, false, false, false, false] rfl rfl (take_ofW HT_.out HW_.out (by kernel_rfl)) (fun _ _ _ h => h) (Or.inl ⟨by rfl, ?_⟩) hHeld ?_ ?_
          rotate_left
          · rintro w' ⟨s0, s1, s2, s3⟩
            go_simp
            with_reducible rfl
          rotate_left
          · simp only [Act.put, List.setIfInBounds_toArray, List.set_cons_zero, List.set_cons_succ, i64_w, i32_w]
            rfl
          refine take_ (i := 5) (N := some 74) (v := ?_) (a' := ?_) #[true, true, true, true, true, true, false, false, false, false, false] rfl rfl (take_ofW HT_.out HW_.out (by kernel_rfl)) (fun _ _ _ h => h) (Or.inl ⟨by rfl, ?_⟩) hHeld ?_ ?_
          rotate_left
          · rintro w' ⟨s0, s1, s2, s3⟩
            go_simp
            with_reducible rfl
          rotate_left
          · simp only [Act.put, List.setIfInBounds_toArray, List.set_cons_zero, List.set_cons_succ, i64_w, i32_w]
            rfl
          refine take_ (i := 6) (N := some 75) (v := ?_) (a' := ?_) #[true, true, true, true, true, true, true, false, false, false, false] rfl rfl (take_ofW HT_.out HW_.out (by kernel_rfl)) (fun _ _ _ h => h) (Or.inl ⟨by rfl, ?_⟩) hHeld ?_ ?_
          rotate_left
          · rintro w' ⟨s0, s1, s2, s3⟩
            go_simp
            with_reducible rfl
          rotate_left
          · simp only [Act.put, List.setIfInBounds_toArray, List.set_cons_zero, List.set_cons_succ, i64_w, i32_w]
            rfl
          refine take_ (i := 7) (N := some 76) (v := ?_) (a' := ?_) #[true, true, true, true, true, true, true, true, false, false, false] rfl rfl (take_ofW HT_.out HW_.out (by kernel_rfl)) (fun _ _ _ h => h) (Or.inl ⟨by rfl, ?_⟩) hHeld ?_ ?_
          rotate_left
          · rintro w' ⟨s0, s1, s2, s3⟩
            go_simp
            with_reducible rfl
          rotate_left
          · simp only [Act.put, List.setIfInBounds_toArray, List.set_cons_zero, List.set_cons_succ, i64_w, i32_w]
            rfl
          refine take_ (i := 8) (N := some 77) (v := ?_) (a' := ?_) #[true, true, true, true, true, true, true, true, true, false, false] rfl rfl (take_ofW HT_.out HW_.out (by kernel_rfl)) (fun _ _ _ h => h) (Or.inl ⟨by rfl, ?_⟩) hHeld ?_ ?_
          rotate_left
          · rintro w' ⟨s0, s1, s2, s3⟩
            go_simp
            with_reducible rfl
          rotate_left
          · simp only [Act.put, List.setIfInBounds_toArray, List.set_cons_zero, List.set_cons_succ, i64_w, i32_w]
            rfl
          refine take_ (i := 9) (N := some 78) (v := ?_) (a' := ?_) #[true, true, true, true, true, true, true, true, true, true, false] rfl rfl (take_ofW HT_.out HW_.out (by kernel_rfl)) (fun _ _ _ h => h) (Or.inl ⟨by rfl, ?_⟩) hHeld ?_ ?_
          rotate_left
          · rintro w' ⟨s0, s1, s2, s3⟩
            go_simp
            with_reducible rfl
          rotate_left
          · simp only [Act.put, List.setIfInBounds_toArray, List.set_cons_zero, List.set_cons_succ, i64_w, i32_w]
            rfl
          refine take_ (i := 10) (N := some 79) (v := ?_) (a' := ?_) #[true, true, true, true, true, true, true, true, true, true, true] rfl rfl (take_ofW HT_.out HW_.out (by kernel_rfl)) (fun _ _ _ h => h) (Or.inl ⟨by rfl, ?_⟩) hHeld ?_ ?_
          rotate_left
          · rintro w' ⟨s0, s1, s2, s3⟩
            go_simp
            with_reducible rfl
          rotate_left
          · simp only [Act.put, List.setIfInBounds_toArray, List.set_cons_zero, List.set_cons_succ, i64_w, i32_w]
            rfl
          refine done_ (done_of HT_.out (by kernel_rfl)) ?_
          go_wp2
          go_ret2
          have hv := HV2.out
          rw [if_pos HZZ.out] at hv
          obtain ⟨rfl, rfl⟩ := Prod.mk.inj hv
          exact ⟨rfl, HB.out.trans ((HS.out.below.trans (HWD.out.mono HS.out.below.size)).mono HB.out.size)⟩
        · have b0 : (q.f0 == n1 && q.f1 == m1) = false := by
           cases h : (q.f0 == n1 && q.f1 == m1) with
           | false => rfl
           | true => simp at h; exact absurd h hz
          have HZZ := Aside0.mk hz
          clear hz
          go_upto_region 18 with fail
          refine start_ (n := 11) (S := fun w' => w'.cell? (ad.add (L1 * 2)) = some (.int .i64 q.f0) ∧ w'.cell? ⟨(ad.add (L1 * 2)).block, (ad.add (L1 * 2)).off + 1, none⟩ = some (.int .i64 q.f1) ∧ w'.cell? ⟨g, 2, none⟩ = some (.int .i64 n1) ∧ w'.cell? ⟨g, 3, none⟩ = some (.int .i64 m1)) (ds := []) #[false, false, false, false, false, false, false, false, false, false, false] (by kernel_rfl) rfl rfl KK.out (fun hHeld => ?_)
          refine with_tabW hgt18_tab hgt18_bits (fun HT_ HW_ => ?_)
          refine take_ (i := 0) (N := some 69) (v := ?_) (a' := ?_) #[true, false, false, false, false, false, false, false, false, false, false] rfl rfl (take_ofW HT_.out HW_.out (by kernel_rfl)) (fun _ _ _ h => h) (Or.inl ⟨by rfl, ?_⟩) hHeld ?_ ?_
          rotate_left
          · rintro w' ⟨s0, s1, s2, s3⟩
            go_simp
            with_reducible rfl
          rotate_left
          · simp only [Act.put, List.setIfInBounds_toArray, List.set_cons_zero, List.set_cons_succ, i64_w, i32_w]
            rfl
          refine take_ (i := 1) (N := some 70) (v := ?_) (a' := ?_) #[true, true, false, false, false, false, false, false, false, false, false] rfl rfl (take_ofW HT_.out HW_.out (by kernel_rfl)) (fun _ _ _ h => h) (Or.inl ⟨by rfl, ?_⟩) hHeld ?_ ?_
          rotate_left
          · rintro w' ⟨s0, s1, s2, s3⟩
            go_simp
            with_reducible rfl
          rotate_left
          · simp only [Act.put, List.setIfInBounds_toArray, List.set_cons_zero, List.set_cons_succ, i64_w, i32_w]
            rfl
          refine take_ (i := 2) (N := some 71) (v := ?_) (a' := ?_) #[true, true, true, false, false, false, false, false, false, false, false] rfl rfl (take_ofW HT_.out HW_.out (by kernel_rfl)) (fun _ _ _ h => h) (Or.inl ⟨by rfl, ?_⟩) hHeld ?_ ?_
          rotate_left
          · rintro w' ⟨s0, s1, s2, s3⟩
            go_simp
            with_reducible rfl
          rotate_left
          · simp only [Act.put, List.setIfInBounds_toArray, List.set_cons_zero, List.set_cons_succ, i64_w, i32_w]
            rfl
          refine take_ (i := 3) (N := some 72) (v := ?_) (a' := ?_) #[true, true, true, true, false, false, false, false, false, false, false] rfl rfl (take_ofW HT_.out HW_.out (by kernel_rfl)) (fun _ _ _ h => h) (Or.inl ⟨by rfl, ?_⟩) hHeld ?_ ?_
          rotate_left
          · rintro w' ⟨s0, s1, s2, s3⟩
            go_simp
            with_reducible rfl
          rotate_left
          · simp only [Act.put, List.setIfInBounds_toArray, List.set_cons_zero, List.set_cons_succ, i64_w, i32_w]
            rfl
          refine take_ (i := 4) (N := some 73) (v := ?_) (a' := ?_) #[true, true, true, true, true, false, false, false, false, false, false] rfl rfl (take_ofW HT_.out HW_.out (by kernel_rfl)) (fun _ _ _ h => h) (Or.inl ⟨by rfl, ?_⟩) hHeld ?_ ?_
          rotate_left
          · rintro w' ⟨s0, s1, s2, s3⟩
            go_simp
            with_reducible rfl
          rotate_left
          · simp only [Act.put, List.setIfInBounds_toArray, List.set_cons_zero, List.set_cons_succ, i64_w, i32_w]
            rfl
          refine take_ (i := 5) (N := some 74) (v := ?_) (a' := ?_) #[true, true, true, true, true, true, false, false, false, false, false] rfl rfl (take_ofW HT_.out HW_.out (by kernel_rfl)) (fun _ _ _ h => h) (Or.inl ⟨by rfl, ?_⟩) hHeld ?_ ?_
          rotate_left
          · rintro w' ⟨s0, s1, s2, s3⟩
            go_simp
            with_reducible rfl
          rotate_left
          · simp only [Act.put, List.setIfInBounds_toArray, List.set_cons_zero, List.set_cons_succ, i64_w, i32_w]
            rfl
          refine take_ (i := 6) (N := some 75) (v := ?_) (a' := ?_) #[true, true, true, true, true, true, true, false, false, false, false] rfl rfl (take_ofW HT_.out HW_.out (by kernel_rfl)) (fun _ _ _ h => h) (Or.inl ⟨by rfl, ?_⟩) hHeld ?_ ?_
          rotate_left
          · rintro w' ⟨s0, s1, s2, s3⟩
            go_simp
            with_reducible rfl
          rotate_left
          · simp only [Act.put, List.setIfInBounds_toArray, List.set_cons_zero, List.set_cons_succ, i64_w, i32_w]
            rfl
          refine take_ (i := 7) (N := some 76) (v := ?_) (a' := ?_) #[true, true, true, true, true, true, true, true, false, false, false] rfl rfl (take_ofW HT_.out HW_.out (by kernel_rfl)) (fun _ _ _ h => h) (Or.inl ⟨by rfl, ?_⟩) hHeld ?_ ?_
          rotate_left
          · rintro w' ⟨s0, s1, s2, s3⟩
            go_simp
            with_reducible rfl
          rotate_left
          · simp only [Act.put, List.setIfInBounds_toArray, List.set_cons_zero, List.set_cons_succ, i64_w, i32_w]
            rfl
          refine take_ (i := 8) (N := some 77) (v := ?_) (a' := ?_) #[true, true, true, true, true, true, true, true, true, false, false] rfl rfl (take_ofW HT_.out HW_.out (by kernel_rfl)) (fun _ _ _ h => h) (Or.inl ⟨by rfl, ?_⟩) hHeld ?_ ?_
          rotate_left
          · rintro w' ⟨s0, s1, s2, s3⟩
            go_simp
            with_reducible rfl
          rotate_left
          · simp only [Act.put, List.setIfInBounds_toArray, List.set_cons_zero, List.set_cons_succ, i64_w, i32_w]
            rfl
          refine take_ (i := 9) (N := some 78) (v := ?_) (a' := ?_) #[true, true, true, true, true, true, true, true, true, true, false] rfl rfl (take_ofW HT_.out HW_.out (by kernel_rfl)) (fun _ _ _ h => h) (Or.inl ⟨by rfl, ?_⟩) hHeld ?_ ?_
          rotate_left
          · rintro w' ⟨s0, s1, s2, s3⟩
            go_simp
            with_reducible rfl
          rotate_left
          · simp only [Act.put, List.setIfInBounds_toArray, List.set_cons_zero, List.set_cons_succ, i64_w, i32_w]
            rfl
          refine take_ (i := 10) (N := some 79) (v := ?_) (a' := ?_) #[true, true, true, true, true, true, true, true, true, true, true] rfl rfl (take_ofW HT_.out HW_.out (by kernel_rfl)) (fun _ _ _ h => h) (Or.inl ⟨by rfl, ?_⟩) hHeld ?_ ?_
          rotate_left
          · rintro w' ⟨s0, s1, s2, s3⟩
            go_simp
            with_reducible rfl
          rotate_left
          · simp only [Act.put, List.setIfInBounds_toArray, List.set_cons_zero, List.set_cons_succ, i64_w, i32_w]
            rfl
          refine done_ (done_of HT_.out (by kernel_rfl)) ?_
          go_wp2
          go_ret2
          have hv := HV2.out
          rw [if_neg HZZ.out] at hv
          obtain ⟨rfl, rfl⟩ := Prod.mk.inj hv
          exact ⟨rfl, HB.out.trans ((HS.out.below.trans (HWD.out.mono HS.out.below.size)).mono HB.out.size)⟩
 · rw [if_neg h0] at h1
   obtain ⟨rfl, rfl⟩ := Prod.mk.inj h1
   have hb0 : (e != 0) = true := by simp [h0]
   have H0 := Aside0.mk h0
   clear h0 h1
   go_enter Try.func35, Try.ntmps35
   go_wp2_with fail
   refine (newTable_no A0 c0 l0 A1 c1 l1 e _ HR0.out HC.out.1 HR1.out HC.out.2.1 HE.out H0.out).mono ?_
   rintro e w1 ⟨rfl, hb⟩
   have HB := Aside0.mk hb
   clear hb
   go_wp2
   go_ret2
   exact ⟨rfl, HB.out⟩
end

end Go.Proofs.Ytkocigldchiifaa.H

/- Thirty equal events: how many walks there are; the chapter's list. -/
namespace Go.Proofs.Ytkocigldchiifaa.H
open Go.RowKit Go.Proofs.YtkocigldchiifaaW.PrintWords Go.Proofs.YtkocigldchiifaaW.PrintLast Go.Proofs.YtkocigldchiifaaW.PrintMore
open Go.Shelf Go.Proofs.Ytkocigldchiifaa.QA
set_option linter.unusedVariables false
set_option linter.unusedSimpArgs false

def cap52 (x : Int) : Int := min x 4503599627370496
def e5 : S59 := ⟨5, 0, 0⟩
theorem dEnd_e5 (n m u v : Nat) (hu : u < n) (hv : v < m) : dEnd (List.replicate n e5) (List.replicate m e5) u v = 0 := by
 have h1 : ∀ (k : Nat) (i : Int), 0 ≤ i → i < k → rd_T59 (List.replicate k e5) i = e5 := fun k i h0 hk => by
  unfold rd_T59
  rw [List.getD_eq_getElem?_getD, List.getElem?_replicate, if_pos (by omega)]
  rfl
 unfold dEnd
 rw [List.length_replicate, List.length_replicate, h1 n _ (by omega) (by omega), h1 m _ (by omega) (by omega)]
 rfl
/-- How many walks there are in the table of 30 equal events. -/
def c30 (u v : Nat) : Int := dp (cntH (List.replicate 30 e5) (List.replicate 30 e5) 0) u v
theorem c30_h (u v : Nat) (l : List Int) (hu : u ≤ 29) (hv : v ≤ 29) : cntH (List.replicate 30 e5) (List.replicate 30 e5) 0 u v l = cap52 (l.foldl (fun m x => m + x) (if u = 0 ∧ v = 0 then 1 else 0)) := by
 unfold cntH cap52
 rw [dEnd_e5 30 30 u v (by omega) (by omega), if_neg (by omega)]
theorem c30_00 : c30 0 0 = 1 := by
 show cntH (List.replicate 30 e5) (List.replicate 30 e5) 0 0 0 [] = 1
 rw [c30_h 0 0 _ (by omega) (by omega), if_pos ⟨rfl, rfl⟩]
 rfl
theorem c30_0v (v : Nat) (hv : v + 1 ≤ 29) : c30 0 (v + 1) = cap52 (0 + c30 0 v) := by
 show cntH _ _ 0 0 (v + 1) [c30 0 v] = _
 rw [c30_h 0 (v + 1) _ (by omega) hv, if_neg (by omega)]
 rfl
theorem c30_u0 (u : Nat) (hu : u + 1 ≤ 29) : c30 (u + 1) 0 = cap52 (0 + c30 u 0) := by
 show cntH _ _ 0 (u + 1) 0 [c30 u 0] = _
 rw [c30_h (u + 1) 0 _ hu (by omega), if_neg (by omega)]
 rfl
theorem c30_uv (u v : Nat) (hu : u + 1 ≤ 29) (hv : v + 1 ≤ 29) : c30 (u + 1) (v + 1) = cap52 (0 + c30 u v + c30 u (v + 1) + c30 (u + 1) v) := by
 show cntH _ _ 0 (u + 1) (v + 1) [c30 u v, c30 u (v + 1), c30 (u + 1) v] = _
 rw [c30_h (u + 1) (v + 1) _ hu hv, if_neg (by omega)]
 rfl
theorem c30_in (u : Nat) : ∀ v, u ≤ 29 → v ≤ 29 → 0 ≤ c30 u v ∧ c30 u v ≤ 4503599627370496 := by
 induction u with
 | zero =>
  intro v
  induction v with
  | zero => intro _ _; rw [c30_00]; omega
  | succ v ih =>
   intro hu hv
   have := ih hu (by omega)
   rw [c30_0v v hv]
   unfold cap52
   omega
 | succ u ihu =>
  intro v
  induction v with
  | zero =>
   intro hu hv
   have := ihu 0 (by omega) hv
   rw [c30_u0 u hu]
   unfold cap52
   omega
  | succ v ih =>
   intro hu hv
   have h1 := ihu v (by omega) (by omega)
   have h2 := ihu (v + 1) (by omega) hv
   have h3 := ih hu (by omega)
   rw [c30_uv u v hu hv]
   unfold cap52
   omega
def lowAB : Nat → Int × Int
 | 0 => (1, 1)
 | u + 1 => ((lowAB u).1 + 2 * (lowAB u).2, (lowAB u).1 + 4 * (lowAB u).2)
theorem c30_mono_r (u v : Nat) (hu : u ≤ 29) (hv : v + 1 ≤ 29) : c30 u v ≤ c30 u (v + 1) := by
 have h0 := c30_in u v hu (by omega)
 cases u with
 | zero => rw [c30_0v v hv]; unfold cap52; omega
 | succ u =>
  have h1 := c30_in u v (by omega) (by omega)
  have h2 := c30_in u (v + 1) (by omega) hv
  rw [c30_uv u v hu hv]
  unfold cap52
  omega
theorem c30_mono_d (u v : Nat) (hu : u + 1 ≤ 29) (hv : v ≤ 29) : c30 u v ≤ c30 (u + 1) v := by
 have h0 := c30_in u v (by omega) hv
 cases v with
 | zero => rw [c30_u0 u hu]; unfold cap52; omega
 | succ v =>
  have h1 := c30_in u v (by omega) (by omega)
  have h2 := c30_in (u + 1) v hu (by omega)
  rw [c30_uv u v hu hv]
  unfold cap52
  omega
theorem low_pos (u : Nat) : 0 ≤ (lowAB u).1 ∧ 0 ≤ (lowAB u).2 := by
 induction u with
 | zero => decide
 | succ u ih => show 0 ≤ (lowAB u).1 + 2 * (lowAB u).2 ∧ 0 ≤ (lowAB u).1 + 4 * (lowAB u).2; omega
theorem c30_low (u : Nat) : u + 1 ≤ 29 → min (lowAB u).1 4503599627370496 ≤ c30 u u ∧ min (lowAB u).2 4503599627370496 ≤ c30 u (u + 1) ∧ min (lowAB u).2 4503599627370496 ≤ c30 (u + 1) u := by
 induction u with
 | zero =>
  intro h
  have e : lowAB 0 = (1, 1) := rfl
  rw [e, c30_00, c30_0v 0 (by omega), c30_u0 0 (by omega), c30_00]
  unfold cap52
  omega
 | succ u ih =>
  intro h
  obtain ⟨h1, h2, h3⟩ := ih (by omega)
  have e : lowAB (u + 1) = ((lowAB u).1 + 2 * (lowAB u).2, (lowAB u).1 + 4 * (lowAB u).2) := rfl
  have hp := low_pos u
  have m1 := c30_mono_r u (u + 1) (by omega) (by omega)
  have m2 := c30_mono_d (u + 1) u (by omega) (by omega)
  have i1 := c30_in u u (by omega) (by omega)
  have i2 := c30_in u (u + 1) (by omega) (by omega)
  have i3 := c30_in (u + 1) u (by omega) (by omega)
  have d1 := c30_uv u u (by omega) (by omega)
  have d2 := c30_uv u (u + 1) (by omega) (by omega)
  have d3 := c30_uv (u + 1) u (by omega) (by omega)
  unfold cap52 at d1 d2 d3
  rw [e]
  simp only
  generalize (lowAB u).1 = x at *
  generalize (lowAB u).2 = y at *
  refine ⟨?_, ?_, ?_⟩ <;> omega
theorem cnt30 : cntI (List.replicate 30 e5) (List.replicate 30 e5) 0 0 0 = 4503599627370496 := by
 have e : cntI (List.replicate 30 e5) (List.replicate 30 e5) 0 0 0 = c30 (28 + 1) (28 + 1) := by
  unfold cntI dpI c30
  rw [List.length_replicate]
  rfl
 obtain ⟨h1, h2, h3⟩ := c30_low 28 (by omega)
 have d := c30_uv 28 28 (by omega) (by omega)
 unfold cap52 at d
 have hl : (lowAB 28).2 ≥ 4503599627370496 := by decide
 have i1 := c30_in 28 28 (by omega) (by omega)
 have i2 := c30_in 28 (28 + 1) (by omega) (by omega)
 have i3 := c30_in (28 + 1) 28 (by omega) (by omega)
 rw [e]
 omega
theorem cnt19 : cntI (List.replicate 10 e5) (List.replicate 2 e5) 0 0 0 = 19 := by kernel_rfl
theorem good5 (n : Nat) : ∀ x ∈ List.replicate n e5, goodB x = true := fun x hx => by rw [List.eq_of_mem_replicate hx]; rfl
theorem roll5 (n m : Nat) (hn : 1 ≤ n ∧ n ≤ 30) (hm : 1 ≤ m ∧ m ≤ 30) : Rolls (List.replicate n e5) (List.replicate m e5) := ⟨by rw [List.length_replicate]; exact hn, by rw [List.length_replicate]; exact hm, good5 n, good5 m⟩
theorem walks30 : align_Walks.f (List.replicate 30 e5) (List.replicate 30 e5) 0 = some (4503599627370496, 0) := by
 unfold align_Walks.f
 rw [check_ok (roll5 30 30 (by omega) (by omega)), cnt30]
 rfl
theorem walks19 : align_Walks.f (List.replicate 10 e5) (List.replicate 2 e5) 0 = some (19, 0) := by
 unfold align_Walks.f
 rw [check_ok (roll5 10 2 (by omega) (by omega)), cnt19]
 rfl
def exA : List S59 := [⟨40, 50, 0⟩, ⟨42, 60, 10⟩, ⟨44, 70, 12⟩]
def exB : List S59 := [⟨40, 52, 0⟩, ⟨42, 60, 11⟩, ⟨42, 61, 10⟩, ⟨44, 66, 12⟩]
def exW : List S25 := [⟨0, 0⟩, ⟨1, 1⟩, ⟨2, 2⟩, ⟨2, 3⟩]
theorem heightEx : align_Height.f exA exB exW = some (1000000, 0) := by kernel_rfl

end Go.Proofs.Ytkocigldchiifaa.H
