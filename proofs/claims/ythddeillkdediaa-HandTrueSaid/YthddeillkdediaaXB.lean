/- Texts H3, H4, RR, H5 of this chapter, one behind the other. -/
import Derived.Carry
import Derived.LoopIn
import Derived.LoopNIn
import Derived.Maps.AppendAt
import Derived.OwnWalkIn
import Derived.RangeFuncBound
import Derived.RangeFuncBox
import Derived.RangeFuncCalls
import Derived.RangeFuncLeaves
import Derived.RangeFuncNested
import Derived.RangeFuncWrites
import Derived.Shelf.Abstract
import Derived.Shelf.RegionOpen
import Derived.TacticsInMore
import Derived.WalkKit
import Derived.Test.YthddeillkdediaaXA

/- Own rows of numbers in loops over the pool. -/
namespace Go.Proofs.Ythddeillkdediaa.H
open Go.RowKit Go.Proofs.YthddeillkdediaaW.PrintWords Go.Proofs.YthddeillkdediaaW.PrintLast Go.Proofs.YthddeillkdediaaW.PrintMore
open Go.Shelf Go.Proofs.Ythddeillkdediaa.QA
attribute [local go_sem] Oper.semAt_some
set_option linter.unusedVariables false
set_option linter.unusedSimpArgs false

/-- The pool's function value. -/
theorem pool_calls (g m c : Nat) (w : World) : Calls Try.prog 71 #[.slice (some ⟨g, 0, none⟩) m c] w fun e w' =>
  e = .returned (.func (.func 84) #[] #[.pointer (some ⟨w.heap.size, 0, none⟩)]) ∧ w' = w.alloc (.cells #[.slice (some ⟨g, 0, none⟩) m c] 113) := by
 go_enter Try.func71, Try.ntmps71
 go_wp2
 go_ret
 exact ⟨rfl, rfl⟩
/-- The pool, as an iterator. -/
theorem pool_stops (n : Nat) (hn : 1 ≤ n) (Bt g n₀ c : Nat) (cs : Array Value) (ls : List (List Int)) (w : World)
    (htb : w.heap[Bt]? = some (.cells #[.slice (some ⟨g, 0, none⟩) ls.length c] 113 (0, 0))) (htg : w.heap[g]? = some (.cells cs 71 (0, 0)))
    (hT : ∀ W', Below n₀ w W' → Rw cs ls W') (hn0 : n₀ ≤ w.heap.size) (hl : ls.length ≤ 1000) (hs : ∀ l ∈ ls, l.length ≤ 1000000) :
    SeqStopsK Fence.wide n Try.prog 84 #[.pointer (some ⟨Bt, 0, none⟩)] (fun x : Int => #[Value.int .i64 x]) (KpP n₀ Bt g) (fun ys => ys = ls.flatten) (fun pre => pre <+: ls.flatten) ls.flatten.length w := by
  intro lp J Jx W hW hJ hJx hY h0
  refine (pool1_in n hn lp Bt g n₀ c cs ls J Jx ?_ W (blk_below htb hW) (blk_below htg hW) (fun W' hb => hT W' ((hW.mono hn0).trans hb)) hl hs h0).mono ?_
  · rintro pre x X hp hJ1
    have hlen : pre.length < ls.flatten.length := by
     have := hp.length_le
     rw [List.length_append, List.length_singleton] at this
     omega
    exact hY pre x X hJ1 hlen
  · rintro e W' ⟨hv, (⟨pre, h1, h2⟩ | ⟨pre, h1, h2⟩)⟩
    · exact ⟨hv, .inl ⟨pre, h1, h2⟩⟩
    · exact ⟨hv, .inr ⟨pre, h1, h2⟩⟩
/-- One sample is a row of samples. -/
theorem Rw.one {W : World} {A : Option Addr} {c : Nat} {l : List Int} (h : Kd.C (Kd.int .i64) W A l.length l) : Rw #[.slice A l.length c] [l] W := fun i hi => by
 obtain rfl : i = 0 := by simp at hi; omega
 exact ⟨A, c, rfl, h⟩
theorem Rw.two {W : World} {A B : Option Addr} {c d : Nat} {l m : List Int} (h : Kd.C (Kd.int .i64) W A l.length l) (k : Kd.C (Kd.int .i64) W B m.length m) : Rw #[.slice A l.length c, .slice B m.length d] [l, m] W := fun i hi => by
 match i, hi with
 | 0, _ => exact ⟨A, c, rfl, h⟩
 | 1, _ => exact ⟨B, d, rfl, k⟩
 | i + 2, hi => simp at hi; omega
def cellsI (xs : List Int) : List Value := xs.map (Value.int .i64)
theorem cellsI_len (xs : List Int) : (cellsI xs).length = xs.length := by simp [cellsI]
theorem cellsI_oneC (xs : List Int) : ∀ u ∈ cellsI xs, u.oneCell' = true := by
 intro u hu
 obtain ⟨x, _, rfl⟩ := List.mem_map.1 hu
 rfl
/-- A slice of numbers that is boxed, and its row. -/
structure Cs (w W : World) (B : Nat) (v : Value) (xs : List Int) : Prop where
 below : Below w.heap.size w W
 box : Boxed W B 22 v
 row : W.ownsRow w.heap.size 3 1 v xs.length (cellsI xs)
section
variable {w W W' : World} {B : Nat} {v : Value} {xs : List Int}
theorem own_keptI {base : Nat} (h : W.ownsRow base 3 1 v xs.length (cellsI xs)) (hk : ∀ (j : Nat) (cur : Array Value), v.ownBlock = some j → W.heap[j]? = some (.cells cur 3 (0, 0)) → W'.heap[j]? = some (.cells cur 3 (0, 0))) : W'.ownsRow base 3 1 v xs.length (cellsI xs) := by
 obtain ⟨h1, h2⟩ := h
 refine ⟨h1, ?_⟩
 rcases h2 with h2 | ⟨g, cap, cur, rfl, h4, h5, h6⟩
 · exact .inl h2
 · exact .inr ⟨g, cap, cur, rfl, h4, hk g cur rfl h5, h6⟩
theorem Cs.quiet (h : Cs w W B v xs) (hb : Below W.heap.size W W') : Cs w W' B v xs :=
 ⟨h.below.trans (hb.mono h.below.size), blk_below2 hb h.box, own_keptI h.row fun j cur _ hj => blk_below2 hb hj⟩
theorem Cs.lt (h : Cs w W B v xs) : B < W.heap.size := h.box.lt
theorem Cs.grown (h : Cs w W B v xs) {row : Option Nat} (hg : W.grownBy W' row) (hr : ∀ r, row = some r → w.heap.size ≤ r ∧ ∃ o : Obj, W.heap[r]? = some o ∧ o.isCells = false) : Cs w W' B v xs := by
 have hk : ∀ (j : Nat) (o : Obj), W.heap[j]? = some o → o.isCells = true → W'.heap[j]? = some o := fun j o ho hc => (hg.block j (blk_lt2 ho) (fun e => by
  obtain ⟨h1, o', h2, h3⟩ := hr j e.symm
  rw [ho] at h2
  cases h2
  rw [hc] at h3; cases h3)).trans ho
 exact ⟨h.below.grown hg h.below.size (fun k e => (hr k e).1), hk _ _ h.box rfl, own_keptI h.row fun j cur _ hj => hk _ _ hj rfl⟩
end
/-- Pairs appended, in a loop's body. -/
theorem wpListIn_append_at {F : Fence} {n : Nat} (w : World) {ops : Array Oper} {rest : List Oper} {o : Oper} {a : Act} {Q : Exit → Act → World → Prop}
  (hg : o.guard = none) (s x : Operand) (hop : o.op = Op.call { callee := Callee.builtin Builtin.append, args := #[s, x], argTypes := #[22, 22] })
  (base : Nat) (v : Value) (xs ys : List Int) (hs : a.eval s = v) (hown : w.ownsRow base 3 1 v xs.length (cellsI xs)) (ad : Addr) (m c : Nat) (hx : a.eval x = .slice (some ad) m c) (hm : m = ys.length)
  (hc : ∀ j u, (cellsI ys)[j]? = some u → w.cell? (ad.add j) = some u) (hl : xs.length + m ≤ 1000000) (hb : base ≤ w.heap.size)
  (hK : ∀ v' w', w'.ownsRow base 3 1 v' (xs ++ ys).length (cellsI (xs ++ ys)) → w.grownBy w' v.ownBlock → (v'.ownBlock = v.ownBlock ∨ v'.ownBlock = some w.heap.size) → wpListIn F n Try.prog ops Q rest (a.put o.dst v') w') :
  wpListIn F n Try.prog ops Q (o :: rest) a w := by
 obtain ⟨i0, hi, hz0, hz1, hz2⟩ := info_parts info3
 have hM : maxLen = 9223372036854775807 := rfl
 refine wpListIn_plain hg fun K hK' => ?_
 obtain ⟨v', w', hrun, r1, r2, _, r3⟩ := run_append_own_at (P := Try.prog) w base 22 o.type 3 i0 (.int .i64 0) 1 8 Try.underlying22 hi hz0 hz1 hz2 rfl (by decide) v xs.length (cellsI xs) hown ad m c (cellsI ys) (by rw [cellsI_len, hm, Nat.mul_one]) hc (cellsI_oneC ys) (by omega) (by omega) hb
 unfold Oper.wpIn
 refine ⟨?_, ?_⟩
 · simp [Oper.about, hop, resolve, Target.leads, Sem.run_pure]
 · rw [Oper.semAt_plain F _ _ (by rw [hop]; intro c hc'; cases hc')]
   simp [execOp, hop, resolve, invoke, builtin, hs, hx, hrun, Result.andThen]
   refine hK' _ _ (hK v' w' ?_ r2 r3)
   rw [List.length_append, ← hm, show cellsI (xs ++ ys) = cellsI xs ++ cellsI ys by simp [cellsI]]
   exact r1
theorem own_succ {W : World} {base : Nat} {v : Value} {xs : List Int} {x : Int} (h : W.ownsRow base 3 1 v (xs ++ [x]).length (cellsI (xs ++ [x]))) : ∃ g cap, v = .slice (some ⟨g, 0, none⟩) (xs ++ [x]).length cap := by
 rcases h.2 with ⟨_, h0⟩ | ⟨g, cap, _, rfl, _⟩
 · simp at h0
 · exact ⟨g, cap, rfl⟩

theorem rank_calls (A : Option Addr) (c : Nat) (l : List Int) (n : Int) (w : World) (hr : Kd.C (Kd.int .i64) w A l.length l) (hc : l.length ≤ c) (hl : l.length ≤ 1000000) :
 Calls Try.prog 72 #[.slice A l.length c, .int .i64 n] w fun e w' => e = .returned (.int .i64 (rankI l n)) ∧ ∃ k, w' = w.drewN k :=
 (hand_sample_rank.calls (l.length + 1) A c l n _ w hr hc (rank_f l n _ hl (by omega))).mono fun _ _ h => ⟨h.1, h.2.out⟩
theorem repsI (w : World) (base : Nat) (ok : Nat → Prop) (xs : List Int) : Reps ((Kd.int .i64).M w base ok) 1 xs (cellsI xs) := by
 have h : ∀ (ys zs : List Int), Reps ((Kd.int .i64).M w base ok) 1 ys (cellsI ys) → Reps ((Kd.int .i64).M w base ok) 1 (ys ++ zs) (cellsI (ys ++ zs)) := fun ys zs => by
  induction zs generalizing ys with
  | nil => intro h; simpa using h
  | cons z zs ih =>
   intro h
   have := ih (ys ++ [z]) (by
    have h2 := h.snoc (p := z) (c := [.int .i64 z]) rfl rfl
    simpa [cellsI] using h2)
   simpa using this
 simpa using h [] xs (Reps.none _ _)

end Go.Proofs.Ythddeillkdediaa.H

/- slices.Collect of a pool. -/
namespace Go.Proofs.Ythddeillkdediaa.H
open Go.RowKit Go.Proofs.YthddeillkdediaaW.PrintWords Go.Proofs.YthddeillkdediaaW.PrintLast Go.Proofs.YthddeillkdediaaW.PrintMore
open Go.Shelf Go.Proofs.Ythddeillkdediaa.QA
attribute [local go_sem] Oper.semAt_some
set_option linter.unusedVariables false
set_option linter.unusedSimpArgs false

theorem Cs.keeps {w W w' : World} {B : Nat} {v u : Value} {xs : List Int} {o : Obj} (hC : Cs w W B v xs) (hg : (W.alloc o).grownBy w' v.ownBlock) {b : Nat} {cs : Array Value} {t : TypeId} (h1 : t ≠ 22) (h2 : t ≠ 3) (hb : W.heap[b]? = some (.cells cs t (0, 0))) : (w'.setCell ⟨B, 0, none⟩ u).heap[b]? = some (.cells cs t (0, 0)) := by
 have hlt := blk_lt2 hb
 have hne : b ≠ B := fun e => by
  subst e
  have := hC.box.symm.trans hb
  injection this with this
  injection this with _ h
  exact h1 h.symm
 have hno : v.ownBlock ≠ some b := fun e => by
  rcases hC.row.2 with ⟨h3, _⟩ | ⟨g, cap, cur, rfl, h4, h5, h6⟩
  · rw [h3] at e; cases e
  · obtain rfl : g = b := Option.some.inj e
    have := h5.symm.trans hb
    injection this with this
    injection this with _ h
    exact h2 h.symm
 rw [Below.heap_setCell _ _ _ _ hne]
 exact (hg.block b (by simp; omega) (fun e => hno e.symm)).trans ((Below.heap_alloc W _ b hlt).trans hb)
theorem Cs.kp {w W w' : World} {n₀ B1 B2 B : Nat} {v u : Value} {xs : List Int} {o : Obj} (hC : Cs w W B v xs) (hg : (W.alloc o).grownBy w' v.ownBlock) (hB : Below n₀ W (w'.setCell ⟨B, 0, none⟩ u)) : KpP n₀ B1 B2 W (w'.setCell ⟨B, 0, none⟩ u) :=
 ⟨hB, fun cs h => hC.keeps hg (by decide) (by decide) h, fun cs h => hC.keeps hg (by decide) (by decide) h⟩
set_option maxHeartbeats 4000000 in
set_option maxRecDepth 100000 in
/-- slices.AppendSeq(nil, pool). -/
theorem appendSeq_calls (Bt g c : Nat) (cs : Array Value) (ls : List (List Int)) (w : World) (htb : w.heap[Bt]? = some (.cells #[.slice (some ⟨g, 0, none⟩) ls.length c] 113 (0, 0))) (htg : w.heap[g]? = some (.cells cs 71 (0, 0)))
  (hT : ∀ W', Below w.heap.size w W' → Rw cs ls W') (hl : ls.length ≤ 1000) (hs : ∀ l ∈ ls, l.length ≤ 1000000) (hf : ls.flatten.length ≤ 100000) :
  Calls Try.prog 86 #[.slice none 0 0, .func (.func 84) #[] #[.pointer (some ⟨Bt, 0, none⟩)]] w fun e w' => ∃ v, e = .returned v ∧ w'.ownsRow w.heap.size 3 1 v ls.flatten.length (cellsI ls.flatten) ∧ Below w.heap.size w w' := by
 obtain ⟨i0, hi3, hz0, hz1, hz2⟩ := info_parts info3
 refine calls_of_wp_marks Try.func86 rfl ?_
 simp only [Try.ntmps86, List.size_toArray, List.length_cons, List.length_nil, Nat.reduceAdd, Nat.reduceSub, Array.replicate_succ, Array.replicate_zero, List.push_toArray, List.append_toArray, List.nil_append, List.cons_append]
 go_wp2_with fail
 have hb0 := below_alloc (Below.refl w.heap.size w) (.cells #[.slice none 0 0] 22)
 have hS : Cs w (w.alloc (.cells #[.slice none 0 0] 22)) w.heap.size (.slice none 0 0) [] := ⟨hb0, blk_new w _, ⟨rfl, .inl ⟨rfl, rfl⟩⟩⟩
 have hlt1 : Bt < w.heap.size := blk_lt2 htb
 have hlt2 : g < w.heap.size := blk_lt2 htg
 have qt := blk_below2 hb0 htb
 have qg := blk_below2 hb0 htg
 have hsl : (w.alloc (.cells #[.slice none 0 0] 22)).heap.size = w.heap.size + 1 := by simp
 generalize w.alloc (.cells #[.slice none 0 0] 22) = wl at hS qt qg hsl hb0 ⊢
 have HS := Aside0.mk hS
 have HT := Aside0.mk hT
 have HB0 := Aside0.mk hb0
 have HF := Aside0.mk hf
 clear hb0 htb htg hT hS hf
 refine (wpIn_wide (n := 3)).1 ?_
 refine wpIn_rangeFunc_ownH rfl (by omega) (gf := 84) (lb := #[.pointer (some ⟨Bt, 0, none⟩)]) rfl trivial (enters_of Try.func84 (by kernel_rfl) rfl)
  (pool_stops _ (by omega) Bt g w.heap.size c cs ls wl qt qg (fun W' hb => HT.out W' (HB0.out.trans hb)) (by omega) hl hs) KpP.trans' (KpP.putObj (by omega)) (Below.refl _ _) (fun _ => rfl)
  (fun pre W => ∃ v : Value, Cs w W w.heap.size v pre)
  (fun _ _ _ => False)
  (fun pre X Y row hs hg hr => by
   obtain ⟨v, h1⟩ := hs
   exact ⟨v, h1.grown hg (fun r e => by obtain ⟨h3, h4⟩ := hr r e; exact ⟨by omega, h4⟩)⟩)
  (fun _ _ _ _ _ hs _ _ => hs)
  ⟨.slice none 0 0, HS.out⟩
  (fun x a' W => ∃ (u : Nat → Value), a' = { tmps := #[u 0, u 1, .pointer (some ⟨w.heap.size, 0, none⟩), u 3, u 4, .int .i64 x, u 6, u 7, u 8, u 9, u 10, u 11, u 12], defers := [] })
  (fun x a' _ X Y row hs hg hr => hs) ?assign ?body ?done ?stop
 case stop =>
  rintro D c pre W _ _ h _
  exact h.elim
 case assign =>
  intro l pre x W K hI hK
  gi_wp2
  obtain ⟨v, h1⟩ := hI
  refine hK _ _ ⟨Nat.le_refl _, fun k o _ hk _ => hk⟩ (KpP.of_below (Below.refl _ _) (by have := h1.lt; omega)) ⟨v, h1⟩ ⟨fun k => ([_, _, undef, _, _, undef, _, _, _, _, _, _, _] : List Value).getD k undef, rfl⟩
 case body =>
  rintro l pre x a' W hl _ hI ⟨u, rfl⟩ hlt
  obtain ⟨v, hC⟩ := hI
  have c2 := hC.box.cell
  have hb := below_alloc (Below.refl W.heap.size W) (Obj.cells #[Value.int IntKind.i64 x] 3)
  have hC2 := hC.quiet hb
  have HC := Aside0.mk hC
  have HL := Aside0.mk hlt
  clear hC
  gi_wp2_with (gi_at_builtin; refine Aside0.out ?_)
  refine ⟨?_⟩
  refine wpListIn_append_at _ rfl _ _ rfl w.heap.size v pre [x] rfl hC2.row ⟨W.heap.size, 0, none⟩ 1 1 rfl rfl (fun j u hu => by simpa using World.news_of_block (cs := #[Value.int IntKind.i64 x]) (t := 3) (fr := (0, 0)) (heap_alloc_new W (Obj.cells #[Value.int IntKind.i64 x] 3)) j u (by simpa [cellsI] using hu)) (by have := HL.out; have := HF.out; omega) (by have := hC2.lt; omega) ?_
  intro v' w' r1 r2 r3
  obtain ⟨g', cap', rfl⟩ := own_succ r1
  obtain ⟨L, hL⟩ : ∃ L, (pre ++ [x]).length = L := ⟨_, rfl⟩
  rw [hL] at r1 r3 ⊢
  have HLL := Aside0.mk hL
  clear hL
  obtain ⟨b1, b2, b3, b4, b5⟩ := Boxed.appended HC.out.box (by decide) HC.out.row HC.out.below.size (Nat.le_refl _) r1 r2
  have d1 := b1.cell
  have d2 := b1.frozen
  have HBB := Aside0.mk (And.intro b2 (And.intro b3 (And.intro b4 b5)))
  have HR := Aside0.mk (And.intro r2 r3)
  clear b1 b2 b3 b4 b5 r1 r2 r3 hC2 hb
  gi_wp2
  refine ⟨HBB.out.2.2.1.from _, HC.out.kp HR.out.1 HBB.out.2.2.2, _, ⟨HC.out.below.trans HBB.out.2.2.2, HBB.out.1, ?_⟩⟩
  rw [HLL.out]
  exact HBB.out.2.1
 case done =>
  rintro D ys W hD hys hI hDf
  obtain ⟨v, hC⟩ := hI
  have c2 := hC.box.cell
  subst hys
  have HC := Aside0.mk hC
  have HD := Aside0.mk hDf
  clear hC
  dsimp only
  go_wp2
  refine leaves_marks (n₀ := w.heap.size) [{ target := .collected D, args := #[] }] W ⟨⟨D, rfl, by omega, HD.out, fun d' hd => by cases hd⟩, trivial⟩ (fun W' hb hk => ⟨_, results_tmp rfl _ _ _, _, rfl, own_keptI HC.out.row (fun j cur _ hj => hk _ _ hj (fun c e => by cases e)), HC.out.below.trans hb⟩)
/-- slices.Collect(pool). -/
theorem collect_calls (Bt g c : Nat) (cs : Array Value) (ls : List (List Int)) (w : World) (htb : w.heap[Bt]? = some (.cells #[.slice (some ⟨g, 0, none⟩) ls.length c] 113 (0, 0))) (htg : w.heap[g]? = some (.cells cs 71 (0, 0)))
  (hT : ∀ W', Below w.heap.size w W' → Rw cs ls W') (hl : ls.length ≤ 1000) (hs : ∀ l ∈ ls, l.length ≤ 1000000) (hf : ls.flatten.length ≤ 100000) :
  Calls Try.prog 77 #[.func (.func 84) #[] #[.pointer (some ⟨Bt, 0, none⟩)]] w fun e w' => ∃ v, e = .returned v ∧ Kd.R (Kd.int .i64) 3 w' w.heap.size (fun _ => True) v ls.flatten ∧ Below w.heap.size w w' := by
 have HP := Aside0.mk (And.intro htb (And.intro htg hT))
 clear htb htg hT
 go_enter Try.func77, Try.ntmps77
 go_wp2_with fail
 refine (appendSeq_calls Bt g c cs ls _ HP.out.1 HP.out.2.1 HP.out.2.2 hl hs hf).mono ?_
 rintro e w1 ⟨v, rfl, hO, hb⟩
 have hR : Kd.R (Kd.int .i64) 3 w1 w.heap.size (fun _ => True) v ls.flatten := ⟨fun _ _ => trivial, cellsI ls.flatten, hO, repsI _ _ _ _⟩
 have HC := Aside0.mk (And.intro hR hb)
 clear hO hR hb
 go_wp2
 go_ret
 exact ⟨v, rfl, HC.out⟩

end Go.Proofs.Ythddeillkdediaa.H

/- Drawn regions in a round of a loop over an iterator. -/
namespace Go.Proofs.Ythddeillkdediaa.H
open Go.RowKit Go.Proofs.YthddeillkdediaaW.PrintWords Go.Proofs.YthddeillkdediaaW.PrintLast Go.Proofs.YthddeillkdediaaW.PrintMore
open Go.Shelf Go.Proofs.Ythddeillkdediaa.QA
set_option linter.unusedVariables false
set_option linter.unusedSimpArgs false

section
variable {P : Program} {ops : Array Oper} {Q : Exit → Act → World → Prop} {S : World → Prop} {ds : List Nat}
/-- No operation is a defer statement. -/
def noDefer (o : Oper) : Bool := match o.op with | .defer _ => false | _ => true
theorem noDefer_of {o : Oper} (h : noDefer o = true) : ∀ c, o.op ≠ .defer c := fun c e => by
 unfold noDefer at h
 rw [e] at h
 cases h
theorem rowsIn_round {lr n : Nat} {row : String} {args : Array Value} {w : World} {R : Value → World → Prop} (h : Rows P row args w R) : RowsIn (Fence.wide.inRound lr) n P row args w R := fun c cs _ =>
 let ⟨v, w', r, s⟩ := h c cs
 ⟨v, w', r, stepsIn_wide.2 s⟩
theorem upon_round {lr n : Nat} {o : Oper} {a : Act} {K K' : Act → World → Prop} (hK : ∀ a w, K a w → K' a w) : ∀ r : Result Next, o.upon P a K Q r → o.uponIn (Fence.wide.inRound lr) n P a K' Q r := fun r h => by
 cases r with
 | ok x w' =>
  cases x with
  | value v => exact hK _ _ h
  | skip => exact hK _ _ h
  | defer d => exact hK _ _ h
  | enter f args =>
   refine ⟨fun hs => (by cases hs), callsIn_round (Calls.mono h ?_)⟩
   intro e w2 h2
   cases e with
   | returned v => exact hK _ _ h2
   | panicked chain => exact h2
   | outgrown => exact h2
  | row row args => exact ⟨fun hs => (by cases hs), rowsIn_round (Rows.mono h fun v w2 h2 => hK _ _ h2)⟩
  | _ => exact h.elim
 | halt x w' =>
  cases x with
  | panic v => exact h
  | _ => exact h.elim
theorem wpOps_round {lr n : Nat} (hQ : ¬ LetsOut Q) (hd : ∀ (i : Nat) o, ops[i]? = some o → noDefer o = true) : ∀ (l : List Nat) (a : Act) (w : World), wpOps P ops Q l a w → wpOpsIn (Fence.wide.inRound lr) n P ops Q l a w
 | [], _, _, h => h
 | i :: rest, a, w, h => by
  unfold wpOps at h
  unfold wpOpsIn
  cases ho : ops[i]? with
  | none => rw [ho] at h; exact wpOps_round hQ hd rest a w h
  | some o =>
   rw [ho] at h
   simp only at h ⊢
   split
   · rename_i hw
     rw [if_pos hw] at h
     rcases h with h | h
     · unfold Oper.wpIn
       refine ⟨fun _ _ => trivial, ?_⟩
       rw [Fence.inRound_round, Oper.semAt_some _ _ _ (noDefer_of (hd i o ho))]
       exact upon_round (fun a w h => wpOps_round hQ hd rest a w h) _ h
     · exact absurd h.2 hQ
   · rename_i hw
     rw [if_neg hw] at h
     exact ⟨fun _ _ => trivial, wpOps_round hQ hd rest _ w h⟩
/-- A region that draws its order, in a round of a loop: the same script. -/
theorem startR_ {id n m lr : Nat} {a : Act} {w : World} (l : Array Bool) (hm : P.follows .mixedOrders = true) (hn : ops.size = n) (hl : Array.replicate n false = l) (hd : (ops.toList.all noDefer) = true) (hQ : ¬ LetsOut Q) (hS : S w.drew)
    (h : S w.drew → wpAnyLast P .any ops Q S ds n l a w.drew) : (Code.region id ops true).wpIn (Fence.wide.inRound lr) m P Q a w := by
 subst hn
 subst hl
 refine wpIn_region_draw fun t => ?_
 simp only [Region.schedule, hm, Bool.true_or, if_true]
 exact wpOps_round hQ (fun i o ho => List.all_eq_true.1 hd o (by rw [Array.getElem?_toList.symm] at ho; exact List.mem_of_getElem? ho)) _ _ _ (wpAny_sound ops.size t _ a _ (wpAny_of_last _ _ _ _ (h hS)))
end

end Go.Proofs.Ythddeillkdediaa.H

/- (sample).ranks. -/
namespace Go.Proofs.Ythddeillkdediaa.H
open Go.RowKit Go.Proofs.YthddeillkdediaaW.PrintWords Go.Proofs.YthddeillkdediaaW.PrintLast Go.Proofs.YthddeillkdediaaW.PrintMore
open Go.Shelf Go.Proofs.Ythddeillkdediaa.QA
attribute [local go_sem] Oper.semAt_some
set_option linter.unusedVariables false
set_option linter.unusedSimpArgs false

section
variable {P : Program} {ops : Array Oper} {o : Oper} {a : Act} {Q : Exit → Act → World → Prop} {Kc : Act → World → Prop}
theorem store_step {W w1 : World} (hw : Region.wanted o (yielded ops a.tmps) = true) (hN : o.dst = none) (hrun : (execOp a.eval o).run P W = .ok .skip w1) (h : Kc a w1) : if Region.wanted o (yielded ops a.tmps) = true then Oper.wp P o a W Kc Q else Kc (a.put none undef) W := by
 rw [if_pos hw]
 unfold Oper.wp
 rw [hrun]
 show Kc (a.put o.dst undef) w1
 rw [hN]
 exact h
end
theorem Cs.app {w W w1 : World} {B : Nat} {v v1 : Value} {xs : List Int} {x : Int} (hC : Cs w W B v xs) (hB : w.heap.size ≤ B) (hown : w1.ownsRow w.heap.size 3 1 v1 (xs ++ [x]).length (cellsI (xs ++ [x]))) (hg : W.grownBy w1 v.ownBlock) :
 Boxed w1 B 22 v ∧ Cs w (w1.setCell ⟨B, 0, none⟩ v1) B v1 (xs ++ [x]) ∧ KeepsOthers W (w1.setCell ⟨B, 0, none⟩ v1) ∧ Below w.heap.size W (w1.setCell ⟨B, 0, none⟩ v1) ∧
 (∀ (b : Nat) (cs : Array Value) (t : TypeId), t ≠ 3 → W.heap[b]? = some (.cells cs t (0, 0)) → w1.heap[b]? = some (.cells cs t (0, 0))) := by
 have hv1 : Boxed w1 B 22 v := hC.box.kept hg (hC.box.not_row (by decide) hC.row)
 have hbel : Below w.heap.size W (w1.setCell ⟨B, 0, none⟩ v1) := by
  refine ((Below.refl w.heap.size W).grown hg hC.below.size fun j ej => ?_).setCell (p := ⟨B, 0, none⟩) hB v1
  rcases hC.row.2 with ⟨h3, _⟩ | ⟨g, cap, cur, rfl, hb, _, _⟩
  · rw [h3] at ej; cases ej
  · obtain rfl : g = j := by simpa [Value.ownBlock] using ej
    exact hb
 refine ⟨hv1, ⟨hC.below.trans hbel, hv1.set v1, hown.kept (grownBy_setCell' w1 B v1) (.inr (hv1.not_row (by decide) hown).symm)⟩, ?_, hbel, fun b cs t ht hb => ?_⟩
 · refine (KeepsOthers.of_grownBy hg fun j o ej hj => ?_).trans (KeepsOthers.setCell _ _ _)
   rcases hC.row.2 with ⟨h3, _⟩ | ⟨g, cap, cur, rfl, _, hgb, _⟩
   · rw [h3] at ej; cases ej
   · obtain rfl : g = j := by simpa [Value.ownBlock] using ej
     rw [hgb] at hj; cases hj; rfl
 · refine (hg.block b (blk_lt2 hb) (fun e => ?_)).trans hb
   rcases hC.row.2 with ⟨h3, _⟩ | ⟨g, cap, cur, rfl, h4, h5, h6⟩
   · rw [h3] at e; cases e
   · obtain rfl : g = b := (Option.some.inj e).symm
     have := h5.symm.trans hb
     injection this with this
     injection this with _ h
     exact ht h.symm
theorem KpP.box {n₀ B1 B2 B : Nat} {W w1 : World} {v u : Value} {t : TypeId} (hb : Below n₀ W (w1.setCell ⟨B, 0, none⟩ u)) (hbox : Boxed w1 B t v) (h1 : t ≠ 113) (h2 : t ≠ 71) (hk : ∀ (b : Nat) (cs : Array Value) (t : TypeId), t ≠ 3 → W.heap[b]? = some (.cells cs t (0, 0)) → w1.heap[b]? = some (.cells cs t (0, 0))) : KpP n₀ B1 B2 W (w1.setCell ⟨B, 0, none⟩ u) := by
 have hs : KpP 0 B1 B2 w1 (w1.setCell ⟨B, 0, none⟩ u) := KpP.set hbox h1 h2 (Nat.zero_le _)
 exact ⟨hb, fun cs h => hs.b1 cs (hk _ _ _ (by decide) h), fun cs h => hs.b2 cs (hk _ _ _ (by decide) h)⟩
theorem rank_calls2 (A : Option Addr) (c : Nat) (l : List Int) (n : Int) (w : World) (hr : Kd.C (Kd.int .i64) w A l.length l) (hc : l.length ≤ c) (hl : l.length ≤ 1000000) :
 Calls Try.prog 72 #[.slice A l.length c, .int .i64 n] w fun e w' => e = .returned (.int .i64 (rankI l n)) ∧ Below w.heap.size w w' := (rank_calls A c l n w hr hc hl).mono fun _ _ ⟨h1, k, h2⟩ => ⟨h1, by rw [h2]; exact pw_below_drewN (Below.refl _ _) k⟩
def rk4_T : Bool × List (List Nat × List Nat) := (true, [([], []), ([], []), ([], []), ([1, 2], [1, 2]), ([3], [3]), ([0, 4, 3], [0, 4]), ([5, 5, 0, 1, 2, 3, 4, 5], [5])])
def rk4_B : List Nat := [0, 0, 0, 6, 14, 31, 63]
theorem rk4_tab : rtab .any (opsOf Try.f41 4) = rk4_T := by kernel_rfl
theorem rk4_bits : waitsOk rk4_T.2 rk4_B = true := by kernel_rfl
set_option maxHeartbeats 4000000 in
set_option maxRecDepth 100000 in
/-- (hand.sample).ranks -/
theorem ranks_calls (A : Option Addr) (c : Nat) (l : List Int) (w : World) (hr : Kd.C (Kd.int .i64) w A l.length l) (hc : l.length ≤ c) (hl : l.length ≤ 1000) :
  Calls Try.prog 41 #[.slice A l.length c] w fun e w' => ∃ v, e = .returned v ∧ Kd.R (Kd.int .i64) 3 w' w.heap.size (fun _ => True) v (ranksI l) ∧ Below w.heap.size w w' := by
 obtain ⟨i0, hi3, hz0, hz1, hz2⟩ := info_parts info3
 refine calls_of_wp_marks Try.func41 rfl ?_
 simp only [Try.ntmps41, List.size_toArray, List.length_cons, List.length_nil, Nat.reduceAdd, Nat.reduceSub, Array.replicate_succ, Array.replicate_zero, List.push_toArray, List.append_toArray, List.nil_append, List.cons_append]
 go_wp2_with (go_at_call 71; refine (pool_calls _ _ _ _).mono ?_; rintro e w' ⟨rfl, rfl⟩)
 have s1 : (w.alloc (.cells #[.slice A l.length c] 71)).heap.size = w.heap.size + 1 := by simp
 have s2 : ((w.alloc (.cells #[.slice A l.length c] 71)).alloc (.cells #[.slice none 0 0] 22)).heap.size = w.heap.size + 1 + 1 := by simp
 have s3 : (((w.alloc (.cells #[.slice A l.length c] 71)).alloc (.cells #[.slice none 0 0] 22)).alloc (.cells #[.slice A l.length c] 71)).heap.size = w.heap.size + 1 + 1 + 1 := by simp
 have b0 := blk_new w (.cells #[.slice A l.length c] 71)
 have b1 := blk_new (w.alloc (.cells #[.slice A l.length c] 71)) (.cells #[.slice none 0 0] 22)
 have b2 := blk_new ((w.alloc (.cells #[.slice A l.length c] 71)).alloc (.cells #[.slice none 0 0] 22)) (.cells #[.slice A l.length c] 71)
 have b3 := blk_new (((w.alloc (.cells #[.slice A l.length c] 71)).alloc (.cells #[.slice none 0 0] 22)).alloc (.cells #[.slice A l.length c] 71)) (.cells #[.slice (some ⟨w.heap.size + 1 + 1, 0, none⟩) 1 1] 113)
 rw [s1] at b1
 rw [s2] at b2
 rw [s3] at b3
 have c0 := blk_alloc (blk_alloc (blk_alloc b0 (.cells #[.slice none 0 0] 22)) (.cells #[.slice A l.length c] 71)) (.cells #[.slice (some ⟨w.heap.size + 1 + 1, 0, none⟩) 1 1] 113)
 have c1 := blk_alloc (blk_alloc b1 (.cells #[.slice A l.length c] 71)) (.cells #[.slice (some ⟨w.heap.size + 1 + 1, 0, none⟩) 1 1] 113)
 have c2 := blk_alloc b2 (.cells #[.slice (some ⟨w.heap.size + 1 + 1, 0, none⟩) 1 1] 113)
 have hb0 := below_alloc (below_alloc (below_alloc (below_alloc (Below.refl w.heap.size w) (.cells #[.slice A l.length c] 71)) (.cells #[.slice none 0 0] 22)) (.cells #[.slice A l.length c] 71)) (.cells #[.slice (some ⟨w.heap.size + 1 + 1, 0, none⟩) 1 1] 113)
 have s4 : ((((w.alloc (.cells #[.slice A l.length c] 71)).alloc (.cells #[.slice none 0 0] 22)).alloc (.cells #[.slice A l.length c] 71)).alloc (.cells #[.slice (some ⟨w.heap.size + 1 + 1, 0, none⟩) 1 1] 113)).heap.size = w.heap.size + 1 + 1 + 1 + 1 := by simp
 clear s1 s2 s3 b0 b1 b2
 generalize (((w.alloc (.cells #[.slice A l.length c] 71)).alloc (.cells #[.slice none 0 0] 22)).alloc (.cells #[.slice A l.length c] 71)).alloc (.cells #[.slice (some ⟨w.heap.size + 1 + 1, 0, none⟩) 1 1] 113) = wl at b3 c0 c1 c2 hb0 s4 ⊢
 have HS := Aside0.mk (show Cs w wl (w.heap.size + 1) (.slice none 0 0) [] from ⟨hb0, c1, ⟨rfl, .inl ⟨rfl, rfl⟩⟩⟩)
 have HR := Aside0.mk hr
 have HB0 := Aside0.mk hb0
 have H0 := Aside0.mk c0
 clear hb0 hr c1 c0
 refine (wpIn_wide (n := 3)).1 ?_
 refine wpIn_rangeFunc_ownH rfl (by omega) (gf := 84) (lb := #[.pointer (some ⟨w.heap.size + 1 + 1 + 1, 0, none⟩)]) rfl trivial (enters_of Try.func84 (by kernel_rfl) rfl)
  (pool_stops _ (by omega) (w.heap.size + 1 + 1 + 1) (w.heap.size + 1 + 1) w.heap.size 1 #[.slice A l.length c] [l] wl b3 c2 (fun W' hb => Rw.one (Kd.C_below HR.out (HB0.out.trans hb))) (by omega) (by simp) (by simp; omega)) KpP.trans' (KpP.putObj (by omega)) (Below.refl _ _) (fun _ => rfl)
  (fun pre W => ∃ v : Value, Cs w W (w.heap.size + 1) v (pre.map (rankI l)) ∧ W.heap[w.heap.size]? = some (.cells #[.slice A l.length c] 71 (0, 0)))
  (fun _ _ _ => False)
  (fun pre X Y row hs hg hr => by
   obtain ⟨v, h1, h2⟩ := hs
   exact ⟨v, h1.grown hg (fun r e => by obtain ⟨h3, h4⟩ := hr r e; exact ⟨by omega, h4⟩), (hg.block _ (blk_lt2 h2) (fun e => by have := (hr _ e.symm).1; omega)).trans h2⟩)
  (fun _ _ _ _ _ hs _ _ => hs)
  ⟨.slice none 0 0, HS.out, H0.out⟩
  (fun x a' W => ∃ (u : Nat → Value), a' = { tmps := #[u 0, .pointer (some ⟨w.heap.size, 0, none⟩), u 2, .pointer (some ⟨w.heap.size + 1, 0, none⟩), .int .i64 x, u 5, u 6, u 7, u 8, u 9, u 10, u 11, u 12, u 13, u 14, u 15], defers := [] })
  (fun x a' _ X Y row hs hg hr => hs) ?assign ?body ?done ?stop
 case stop =>
  rintro D c pre W _ _ h _
  exact h.elim
 case assign =>
  intro lr pre x W K hI hK
  gi_wp2
  obtain ⟨v, h1⟩ := hI
  refine hK _ _ ⟨Nat.le_refl _, fun k o _ hk _ => hk⟩ (KpP.of_below (Below.refl _ _) (by have := h1.1.lt; omega)) ⟨v, h1⟩ ⟨fun k => ([_, undef, _, undef, undef, _, _, _, _, _, _, _, _, _, _, _] : List Value).getD k undef, rfl⟩
 case body =>
  rintro lr pre x a' W hlr _ hI ⟨u, rfl⟩ hlt
  obtain ⟨v, hC, h0⟩ := hI
  have c2 := hC.box.cell
  have c0 : W.cell? ⟨w.heap.size, 0, none⟩ = some (.slice A l.length c) := (blk_cell h0 0).trans rfl
  have HC := Aside0.mk hC
  have H0 := Aside0.mk h0
  have HLT := Aside0.mk hlt
  clear hC h0 hlt
  have HRW := Aside0.mk (show Kd.C (Kd.int .i64) W.drew A l.length l from Kd.C_drew (Kd.C_below HR.out HC.out.below))
  have hll : l.length ≤ 1000000 := by omega
  have KK := Aside0.mk (And.intro (show W.drew.cell? ⟨w.heap.size + 1, 0, none⟩ = some v from c2) (show W.drew.cell? ⟨w.heap.size, 0, none⟩ = some (.slice A l.length c) from c0))
  clear c2 c0
  gi_wp2
  refine startR_ (n := 7) (S := fun w' => w'.cell? ⟨w.heap.size + 1, 0, none⟩ = some v ∧ w'.cell? ⟨w.heap.size, 0, none⟩ = some (.slice A l.length c)) (ds := [6]) #[false, false, false, false, false, false, false] (by kernel_rfl) rfl rfl (by kernel_rfl) (fun ⟨_, _, h⟩ => h) KK.out (fun hHeld => ?_)
  refine with_tabW rk4_tab rk4_bits (fun HT_ HW_ => ?_)
  refine take_ (i := 0) (N := some 9) (v := ?_) (a' := ?_) #[true, false, false, false, false, false, false] rfl rfl (take_ofW HT_.out HW_.out (by kernel_rfl)) (fun _ _ _ h => h) (Or.inl ⟨by rfl, ?_⟩) hHeld ?_ ?_
  rotate_left
  · rintro w' ⟨s0, s1⟩
    go_simp
    with_reducible rfl
  rotate_left
  · simp only [Act.put, List.setIfInBounds_toArray, List.set_cons_zero, List.set_cons_succ, i64_w, i32_w]
    rfl
  refine take_ (i := 1) (N := some 10) (v := ?_) (a' := ?_) #[true, true, false, false, false, false, false] rfl rfl (take_ofW HT_.out HW_.out (by kernel_rfl)) (fun _ _ _ h => h) (Or.inl ⟨by rfl, ?_⟩) hHeld ?_ ?_
  rotate_left
  · rintro w' ⟨s0, s1⟩
    go_simp
    with_reducible rfl
  rotate_left
  · simp only [Act.put, List.setIfInBounds_toArray, List.set_cons_zero, List.set_cons_succ, i64_w, i32_w]
    rfl
  refine take_ (i := 2) (N := some 11) (v := ?_) (a' := ?_) #[true, true, true, false, false, false, false] rfl rfl (take_ofW HT_.out HW_.out (by kernel_rfl)) (fun _ _ _ h => h) (Or.inl ⟨by rfl, ?_⟩) hHeld ?_ ?_
  rotate_left
  · rintro w' ⟨s0, s1⟩
    go_simp
    with_reducible rfl
  rotate_left
  · simp only [Act.put, List.setIfInBounds_toArray, List.set_cons_zero, List.set_cons_succ, i64_w, i32_w]
    rfl
  refine one_ (i := 3) (N := some 12) #[true, true, true, true, false, false, false] rfl rfl (one_of HT_.out (by kernel_rfl)) (by decide) (fun K hK => ?_)
  refine goes_ Try.func72 (by kernel_rfl) rfl #[.slice A l.length c, .int .i64 x] (by rfl) rfl rfl (by (try simp only [List.map_toArray, List.map_cons, List.map_nil]); first | done | rfl) ?_
  refine (rank_calls2 A c l x W.drew HRW.out hc hll).mono ?_
  rintro e w2 ⟨rfl, hbb⟩
  refine ⟨_, rfl, ?_⟩
  replace KK := Aside0.mk (And.intro (pw_cell_below hbb KK.out.1) (pw_cell_below hbb KK.out.2))
  have hbW : Below W.heap.size W w2 := (pw_below_drewN (Below.refl W.heap.size W) 1 : Below W.heap.size W W.drew).trans hbb
  have HC2 := Aside0.mk (HC.out.quiet hbW)
  have HBW := Aside0.mk hbW
  clear hbb hbW
  refine hK.out _ _ KK.out (fun hHeld => ?_)
  clear hK K
  refine norm_ (a' := ?_) ?_ ?_
  rotate_left
  · show Act.put _ (some 12) _ = _
    simp only [Act.put, List.setIfInBounds_toArray, List.set_cons_zero, List.set_cons_succ, i64_w, i32_w]
    rfl
  refine one_ (i := 4) (N := some 13) #[true, true, true, true, true, false, false] rfl rfl (one_of HT_.out (by kernel_rfl)) (by decide) (fun K hK => ?_)
  refine value_ (v := .slice (some ⟨w2.heap.size, 0, none⟩) 1 1) (w1 := w2.alloc (.cells #[.int .i64 (rankI l x)] 3)) (by rfl) rfl (by go_simp) ?_
  have hba := below_alloc (Below.refl w2.heap.size w2) (.cells #[.int .i64 (rankI l x)] 3)
  have KA := Aside0.mk (And.intro (pw_cell_below hba KK.out.1) (pw_cell_below hba KK.out.2))
  clear hba
  refine hK.out _ _ KA.out (fun hHeld => ?_)
  clear hK K
  refine norm_ (a' := ?_) ?_ ?_
  rotate_left
  · show Act.put _ (some 13) _ = _
    simp only [Act.put, List.setIfInBounds_toArray, List.set_cons_zero, List.set_cons_succ, i64_w, i32_w]
    rfl
  refine one_ (i := 5) (N := some 14) #[true, true, true, true, true, true, false] rfl rfl (one_of HT_.out (by kernel_rfl)) (by decide) (fun K hK => ?_)
  refine step_append_cells (w0 := w) (W := w2) w.heap.size (by rfl) (.tmp 9) (.tmp 13) 22 3 (.int .i64 0) 1 8 rfl Try.underlying22 info3 rfl (by decide) (by decide) v (pre.map (rankI l)).length (cellsI (pre.map (rankI l))) [.int .i64 (rankI l x)] rfl rfl rfl (by intro u hu; rw [List.mem_singleton.1 hu]; rfl) HC2.out.row HC2.out.below HC2.out.below.size (by have := HLT.out; rw [List.length_map]; simp at this; omega) ?_
  intro v1 w3 hown _ hg3 _
  have hown2 : w3.ownsRow w.heap.size 3 1 v1 (pre.map (rankI l) ++ [rankI l x]).length (cellsI (pre.map (rankI l) ++ [rankI l x])) := by simpa [cellsI] using hown
  clear hown
  obtain ⟨g1, cap1, rfl⟩ := own_succ hown2
  obtain ⟨q1, q2, q3, q4, q5⟩ := HC2.out.app (Nat.le_succ _) hown2 hg3
  have h0w := q5 _ _ _ (by decide) (blk_below2 HBW.out H0.out)
  have hcell0 : w3.cell? ⟨w.heap.size, 0, none⟩ = some (.slice A l.length c) := (blk_cell h0w 0).trans rfl
  have hcq := q1.cell
  have hfz := q1.frozen
  have HH := Aside0.mk (And.intro hcq hcell0)
  have HQ := Aside0.mk (And.intro q1 (And.intro q2 (And.intro q3 (And.intro q4 q5))))
  obtain ⟨LL, hLL⟩ : ∃ LL, (pre.map (rankI l) ++ [rankI l x]).length = LL := ⟨_, rfl⟩
  rw [hLL] at HQ ⊢
  clear hown2 hg3 q1 q2 q3 q4 q5 hcell0
  refine hK.out _ _ HH.out (fun hHeld => ?_)
  clear hK K
  refine norm_ (a' := ?_) ?_ ?_
  rotate_left
  · show Act.put _ (some 14) _ = _
    simp only [Act.put, List.setIfInBounds_toArray, List.set_cons_zero, List.set_cons_succ, i64_w, i32_w]
    rfl
  refine last_ (i := 6) (N := none) #[true, true, true, true, true, true, true] rfl rfl (one_of HT_.out (by kernel_rfl)) (by decide) (fun K hK => ?_)
  refine store_step (by rfl) rfl (w1 := w3.setCell ⟨w.heap.size + 1, 0, none⟩ (.slice (some ⟨g1, 0, none⟩) LL cap1)) (by go_simp) ?_
  refine hK.out _ _ ?_
  clear hK K
  refine done_ (done_of HT_.out (by kernel_rfl)) ?_
  gi_wp2
  have hk1 := HQ.out.2.2.1
  refine ⟨(KeepsOthers.mk HBW.out.size (fun k o hk _ => blk_below2 HBW.out hk)).trans hk1 |>.from _, (KpP.of_below HBW.out (by have := HC.out.below.size; omega)).trans' (KpP.box HQ.out.2.2.2.1 HQ.out.1 (by decide) (by decide) HQ.out.2.2.2.2), .slice (some ⟨g1, 0, none⟩) LL cap1, ?_, ?_⟩
  · rw [show (pre ++ [x]).map (rankI l) = pre.map (rankI l) ++ [rankI l x] by simp]
    exact HQ.out.2.1
  · rw [Below.heap_setCell _ _ _ _ (show w.heap.size ≠ w.heap.size + 1 by omega)]
    exact HQ.out.2.2.2.2 _ _ _ (by decide) (blk_below2 HBW.out H0.out)
 case done =>
  rintro D ys W hD hys hI hDf
  obtain ⟨v, hC, -⟩ := hI
  have c2 := hC.box.cell
  have HE := Aside0.mk (show ys.map (rankI l) = ranksI l by rw [hys]; simp [ranksI])
  have HC := Aside0.mk hC
  have HD := Aside0.mk hDf
  clear hC
  dsimp only
  go_wp2
  refine leaves_marks (n₀ := w.heap.size) [{ target := .collected D, args := #[] }] W ⟨⟨D, rfl, by omega, HD.out, fun d' hd => by cases hd⟩, trivial⟩ (fun W' hb hk => ⟨_, results_tmp rfl _ _ _, _, rfl, ⟨fun _ _ => trivial, cellsI (ys.map (rankI l)), ?_, ?_⟩, HC.out.below.trans hb⟩)
  · rw [← HE.out]
    exact own_keptI HC.out.row (fun j cur _ hj => hk _ _ hj (fun c e => by cases e))
  · rw [← HE.out]
    exact repsI _ _ _ _

end Go.Proofs.Ythddeillkdediaa.H
