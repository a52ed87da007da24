/- Texts PF, HQ, HS, PK, PI, PL, HV, PJ of this chapter, one behind the other. -/
import Derived.BigQuiet
import Derived.Carry
import Derived.LoopIn
import Derived.LoopNIn
import Derived.Maps.AppendAt
import Derived.OwnWalkIn
import Derived.RangeFuncBound
import Derived.RangeFuncBox
import Derived.RangeFuncCalls
import Derived.RangeFuncLeaves
import Derived.RangeFuncNested
import Derived.RangeFuncWrites
import Derived.Shelf.Abstract
import Derived.Shelf.RegionOpen
import Derived.StillTailTactics
import Derived.TacticsInMore
import Derived.WalkKit
import Derived.WalkSmall
import Derived.Test.YtkocigldchiifaaQA4
import Derived.Test.YtkocigldchiifaaQA7
import Derived.Test.YtkocigldchiifaaXA
import Derived.Test.YtkocigldchiifaaXB
import Derived.Test.YtkocigldchiifaaXC
import Derived.Test.YtkocigldchiifaaXD
import Derived.Test.YtkocigldchiifaaXE
import Derived.Test.YtkocigldchiifaaXF
import Derived.Test.YtkocigldchiifaaXG
import Derived.Test.YtkocigldchiifaaXH

/- Walks counted without a limit, and forwards. -/
namespace Go.Proofs.Ytkocigldchiifaa.H
open Go.RowKit Go.Proofs.YtkocigldchiifaaW.PrintWords Go.Proofs.YtkocigldchiifaaW.PrintLast Go.Proofs.YtkocigldchiifaaW.PrintMore
open Go.Shelf Go.Proofs.Ytkocigldchiifaa.QA
set_option linter.unusedVariables false
set_option linter.unusedSimpArgs false

def uH (a b : List S59) (h : Int) (u v : Nat) (l : List Int) : Int := if h < dEnd a b u v then 0 else l.foldl (fun m x => m + x) (if u = 0 ∧ v = 0 then 1 else 0)
/-- How many walks there are, without a limit. -/
def cU (a b : List S59) (h i k : Int) : Int := dpI (uH a b h) a b i k
theorem cU_eq (a b : List S59) (h i k : Int) (hi : 0 ≤ i ∧ i < a.length) (hk : 0 ≤ k ∧ k < b.length) :
  cU a b h i k = if h < farD (rd_T59 a i) (rd_T59 b k) then 0 else (movesOf a b i k).foldl (fun m q => m + cU a b h q.f0 q.f1) (if i = (a.length : Int) - 1 ∧ k = (b.length : Int) - 1 then 1 else 0) := by
 unfold cU
 rw [dp_eq _ a b i k hi hk]
 unfold uH
 rw [dEnd_eq a b i k hi hk, List.foldl_map]
 congr 2
 by_cases h : i = (a.length : Int) - 1 ∧ k = (b.length : Int) - 1
 · rw [if_pos h, if_pos (by omega)]
 · rw [if_neg h, if_neg (by omega)]
theorem cU_cnt (a b : List S59) (h : Int) : ∀ (n : Nat) (i k : Int), (0 ≤ i ∧ i < a.length) → (0 ≤ k ∧ k < b.length) → ((a.length : Int) - i) + ((b.length : Int) - k) ≤ n → 0 ≤ cU a b h i k ∧ cntI a b h i k = min (cU a b h i k) 4503599627370496 := by
 intro n
 induction n with
 | zero => intro i k hi hk h; omega
 | succ n ih =>
  intro i k hi hk hn
  rw [cU_eq a b h i k hi hk, cnt_eq a b h i k hi hk]
  by_cases hd : h < farD (rd_T59 a i) (rd_T59 b k)
  · rw [if_pos hd, if_pos hd]; omega
  · rw [if_neg hd, if_neg hd, moves_eq a b i k hi hk]
    have b1 : i + 1 < a.length ∧ k + 1 < b.length → 0 ≤ cU a b h (i + 1) (k + 1) ∧ cntI a b h (i + 1) (k + 1) = min (cU a b h (i + 1) (k + 1)) 4503599627370496 := fun hh => ih (i + 1) (k + 1) (by omega) (by omega) (by omega)
    have b2 : i + 1 < a.length → 0 ≤ cU a b h (i + 1) k ∧ cntI a b h (i + 1) k = min (cU a b h (i + 1) k) 4503599627370496 := fun hh => ih (i + 1) k (by omega) (by omega) (by omega)
    have b3 : k + 1 < b.length → 0 ≤ cU a b h i (k + 1) ∧ cntI a b h i (k + 1) = min (cU a b h i (k + 1)) 4503599627370496 := fun hh => ih i (k + 1) (by omega) (by omega) (by omega)
    generalize hz : (if i = (a.length : Int) - 1 ∧ k = (b.length : Int) - 1 then (1 : Int) else 0) = z
    have hz1 : 0 ≤ z ∧ z ≤ 1 := by rw [← hz]; split <;> omega
    by_cases g1 : i + 1 < a.length <;> by_cases g2 : k + 1 < b.length <;> simp only [g1, g2, and_self, and_true, true_and, and_false, false_and, if_true, if_false, List.nil_append, List.append_nil, List.foldl_cons, List.foldl_nil, List.cons_append, forall_const] at b1 b2 b3 ⊢ <;> omega
def uX (a b : List S59) (h i k : Int) : Int := if hasP a b i k = true then cU a b h i k else 0
theorem uX_eq {a b : List S59} (h : Int) {i k : Int} (hp : hasP a b i k = true) :
  uX a b h i k = if h < dist a b i k then 0 else (if i = (a.length : Int) - 1 ∧ k = (b.length : Int) - 1 then 1 else 0) + uX a b h (i + 1) (k + 1) + uX a b h (i + 1) k + uX a b h i (k + 1) := by
 obtain ⟨h1, h2⟩ := (hasP_iff a b i k).1 hp
 show (if hasP a b i k = true then cU a b h i k else 0) = _
 rw [if_pos hp, cU_eq a b h i k h1 h2]
 show (if h < dist a b i k then _ else _) = _
 by_cases hd : h < dist a b i k
 · rw [if_pos hd, if_pos hd]
 · rw [if_neg hd, if_neg hd]
   have e1 : hasP a b (i + 1) (k + 1) = true ↔ (i + 1 < a.length ∧ k + 1 < b.length) := by rw [hasP_iff]; omega
   have e2 : hasP a b (i + 1) k = true ↔ (i + 1 < a.length) := by rw [hasP_iff]; omega
   have e3 : hasP a b i (k + 1) = true ↔ (k + 1 < b.length) := by rw [hasP_iff]; omega
   generalize hz : (if i = (a.length : Int) - 1 ∧ k = (b.length : Int) - 1 then (1 : Int) else 0) = z
   rw [moves_eq a b i k h1 h2]
   unfold uX
   simp only [e1, e2, e3]
   by_cases g1 : i + 1 < a.length <;> by_cases g2 : k + 1 < b.length <;> simp only [g1, g2, and_self, and_true, true_and, and_false, false_and, if_true, if_false, List.nil_append, List.append_nil, List.foldl_cons, List.foldl_nil, List.cons_append] <;> omega
end Go.Proofs.Ytkocigldchiifaa.H

/- slices.Collect of the moves from a pair. -/
namespace Go.Proofs.Ytkocigldchiifaa.H
open Go.RowKit Go.Proofs.YtkocigldchiifaaW.PrintWords Go.Proofs.YtkocigldchiifaaW.PrintLast Go.Proofs.YtkocigldchiifaaW.PrintMore
open Go.Shelf Go.Proofs.Ytkocigldchiifaa.QA
attribute [local go_sem] Oper.semAt_some
set_option linter.unusedVariables false
set_option linter.unusedSimpArgs false

theorem cellsP_oneC (xs : List S25) : ∀ u ∈ cellsP xs, u.oneCell' = true := by
 intro u hu
 obtain ⟨x, _, hx⟩ := List.mem_flatMap.1 hu
 simp only [List.mem_cons, List.not_mem_nil, or_false] at hx
 rcases hx with rfl | rfl <;> rfl
/-- A slice that is boxed, and its row. -/
structure Cs (w W : World) (v : Value) (xs : List S25) : Prop where
 below : Below w.heap.size w W
 box : Boxed W w.heap.size 38 v
 row : W.ownsRow w.heap.size 25 2 v xs.length (cellsP xs)
section
variable {w W W' : World} {v : Value} {xs : List S25}
theorem own_keptP {base : Nat} (h : W.ownsRow base 25 2 v xs.length (cellsP xs)) (hk : ∀ (j : Nat) (cur : Array Value), v.ownBlock = some j → W.heap[j]? = some (.cells cur 25 (0, 0)) → W'.heap[j]? = some (.cells cur 25 (0, 0))) : W'.ownsRow base 25 2 v xs.length (cellsP xs) := by
 obtain ⟨h1, h2⟩ := h
 refine ⟨h1, ?_⟩
 rcases h2 with h2 | ⟨g, cap, cur, rfl, h4, h5, h6⟩
 · exact .inl h2
 · exact .inr ⟨g, cap, cur, rfl, h4, hk g cur rfl h5, h6⟩
theorem Cs.quiet (h : Cs w W v xs) (hb : Below W.heap.size W W') : Cs w W' v xs :=
 ⟨h.below.trans (hb.mono h.below.size), blk_below2 hb h.box, own_keptP h.row fun j cur _ hj => blk_below2 hb hj⟩
theorem Cs.lt (h : Cs w W v xs) : w.heap.size < W.heap.size := h.box.lt
theorem Cs.grown (h : Cs w W v xs) {row : Option Nat} (hg : W.grownBy W' row) (hr : ∀ r, row = some r → w.heap.size ≤ r ∧ ∃ o : Obj, W.heap[r]? = some o ∧ o.isCells = false) : Cs w W' v xs := by
 have hk : ∀ (j : Nat) (o : Obj), W.heap[j]? = some o → o.isCells = true → W'.heap[j]? = some o := fun j o ho hc => (hg.block j (blk_lt2 ho) (fun e => by
  obtain ⟨h1, o', h2, h3⟩ := hr j e.symm
  rw [ho] at h2
  cases h2
  rw [hc] at h3; cases h3)).trans ho
 exact ⟨h.below.grown hg h.below.size (fun k e => (hr k e).1), hk _ _ h.box rfl, own_keptP h.row fun j cur _ hj => hk _ _ hj rfl⟩
end
/-- Pairs appended, in a loop's body. -/
theorem wpListIn_append_at {F : Fence} {n : Nat} (w : World) {ops : Array Oper} {rest : List Oper} {o : Oper} {a : Act} {Q : Exit → Act → World → Prop}
  (hg : o.guard = none) (s x : Operand) (hop : o.op = Op.call { callee := Callee.builtin Builtin.append, args := #[s, x], argTypes := #[38, 38] })
  (base : Nat) (v : Value) (xs ys : List S25) (hs : a.eval s = v) (hown : w.ownsRow base 25 2 v xs.length (cellsP xs)) (ad : Addr) (m c : Nat) (hx : a.eval x = .slice (some ad) m c) (hm : m = ys.length)
  (hc : ∀ j u, (cellsP ys)[j]? = some u → w.cell? (ad.add j) = some u) (hl : xs.length + m ≤ 1000000) (hb : base ≤ w.heap.size)
  (hK : ∀ v' w', w'.ownsRow base 25 2 v' (xs ++ ys).length (cellsP (xs ++ ys)) → w.grownBy w' v.ownBlock → (v'.ownBlock = v.ownBlock ∨ v'.ownBlock = some w.heap.size) → wpListIn F n Try.prog ops Q rest (a.put o.dst v') w') :
  wpListIn F n Try.prog ops Q (o :: rest) a w := by
 obtain ⟨i0, hi, hz0, hz1, hz2⟩ := info_parts info25
 have hM : maxLen = 9223372036854775807 := rfl
 refine wpListIn_plain hg fun K hK' => ?_
 obtain ⟨v', w', hrun, r1, r2, _, r3⟩ := run_append_own_at (P := Try.prog) w base 38 o.type 25 i0 (.agg #[(.int .i64 0), (.int .i64 0)]) 2 16 Try.underlying38 hi hz0 hz1 hz2 rfl (by decide) v xs.length (cellsP xs) hown ad m c (cellsP ys) (by rw [cellsP_len, hm]) hc (cellsP_oneC ys) (by omega) (by omega) hb
 unfold Oper.wpIn
 refine ⟨?_, ?_⟩
 · simp [Oper.about, hop, resolve, Target.leads, Sem.run_pure]
 · rw [Oper.semAt_plain F _ _ (by rw [hop]; intro c hc'; cases hc')]
   simp [execOp, hop, resolve, invoke, builtin, hs, hx, hrun, Result.andThen]
   refine hK' _ _ (hK v' w' ?_ r2 r3)
   rw [List.length_append, ← hm, show cellsP (xs ++ ys) = cellsP xs ++ cellsP ys by simp [cellsP]]
   exact r1
theorem own_succ {W : World} {base : Nat} {v : Value} {xs : List S25} {x : S25} (h : W.ownsRow base 25 2 v (xs ++ [x]).length (cellsP (xs ++ [x]))) : ∃ g cap, v = .slice (some ⟨g, 0, none⟩) (xs ++ [x]).length cap := by
 rcases h.2 with ⟨_, h0⟩ | ⟨g, cap, _, rfl, _⟩
 · simp at h0
 · exact ⟨g, cap, rfl⟩
theorem repsP (w : World) (base : Nat) (ok : Nat → Prop) (xs : List S25) : Reps (k25.M w base ok) 2 xs (cellsP xs) := by
 have h : ∀ (ys zs : List S25), Reps (k25.M w base ok) 2 ys (cellsP ys) → Reps (k25.M w base ok) 2 (ys ++ zs) (cellsP (ys ++ zs)) := fun ys zs => by
  induction zs generalizing ys with
  | nil => intro h; simpa using h
  | cons z zs ih =>
   intro h
   have := ih (ys ++ [z]) (by
    have h2 := h.snoc (p := z) (c := [.int .i64 z.f0, .int .i64 z.f1]) (k25_mkM w base ok z) rfl
    simpa [cellsP] using h2)
   simpa using this
 simpa using h [] xs (Reps.none _ _)
set_option maxHeartbeats 4000000 in
set_option maxRecDepth 100000 in
/-- slices.AppendSeq(nil, moves). -/
theorem appendSeq_calls (g Bp Bt : Nat) (a b : List S59) (i k : Int) (w : World) (hp0 : w.cell? ⟨Bp, 0, none⟩ = some (.int .i64 i)) (hp1 : w.cell? ⟨Bp, 1, none⟩ = some (.int .i64 k)) (htb : w.heap[Bt]? = some (.cells #[.pointer (some ⟨g, 0, none⟩)] 80 (0, 0)))
  (hT : Tb w g a b) (hi : 0 ≤ i ∧ i ≤ 1000) (hk : 0 ≤ k ∧ k ≤ 1000) :
  Calls Try.prog 79 #[.slice none 0 0, .func (.func 72) #[] #[.pointer (some ⟨Bp, 0, none⟩), .pointer (some ⟨Bt, 0, none⟩)]] w fun e w' => ∃ v, e = .returned v ∧ w'.ownsRow w.heap.size 25 2 v (movesOf a b i k).length (cellsP (movesOf a b i k)) ∧ Below w.heap.size w w' := by
 have hu25 := Try.underlying25
 obtain ⟨i0, hi25, hz0, hz1, hz2⟩ := info_parts info25
 refine calls_of_wp_marks Try.func79 rfl ?_
 simp only [Try.ntmps79, List.size_toArray, List.length_cons, List.length_nil, Nat.reduceAdd, Nat.reduceSub, Array.replicate_succ, Array.replicate_zero, List.push_toArray, List.append_toArray, List.nil_append, List.cons_append]
 go_wp2_with fail
 have hb0 := below_alloc (Below.refl w.heap.size w) (.cells #[.slice none 0 0] 38)
 have hS : Cs w (w.alloc (.cells #[.slice none 0 0] 38)) (.slice none 0 0) [] := ⟨hb0, blk_new w _, ⟨rfl, .inl ⟨rfl, rfl⟩⟩⟩
 have hltp : Bp < w.heap.size := by have := World.block_lt_of_cell? _ _ hp0; exact this
 have hltt : Bt < w.heap.size := blk_lt2 htb
 have q0 := (hb0.cell (p := ⟨Bp, 0, none⟩) hltp).trans hp0
 have q1 := (hb0.cell (p := ⟨Bp, 1, none⟩) hltp).trans hp1
 have qt := blk_below2 hb0 htb
 have hT1 := hT.below hb0
 have hsl : (w.alloc (.cells #[.slice none 0 0] 38)).heap.size = w.heap.size + 1 := by simp
 generalize w.alloc (.cells #[.slice none 0 0] 38) = wl at hS q0 q1 qt hT1 hsl ⊢
 have HS := Aside0.mk hS
 have HT := Aside0.mk hT
 clear hb0 hp0 hp1 htb
 refine (wpIn_wide (n := 3)).1 ?_
 refine wpIn_rangeFunc_ownH rfl (by omega) (gf := 72) (lb := #[.pointer (some ⟨Bp, 0, none⟩), .pointer (some ⟨Bt, 0, none⟩)]) rfl trivial (enters_of Try.func72 (by kernel_rfl) rfl)
  (moves_stops _ (by omega) Bp Bt w.heap.size g w.heap.size a b i k wl q0 q1 qt (fun W' hb => HT.out.below (HS.out.below.trans hb)) (by omega) (by omega) ((ptr_boxed HS.out.box).trans rfl) hi hk) KpM.trans' (KpM.putObj (by omega) (by omega)) (Below.refl _ _) (fun _ => rfl)
  (fun pre W => ∃ v : Value, Cs w W v (pre.map (·.1)))
  (fun _ _ _ => False)
  (fun pre X Y row hs hg hr => by
   obtain ⟨v, h1⟩ := hs
   exact ⟨v, h1.grown hg (fun r e => by obtain ⟨h3, h4⟩ := hr r e; exact ⟨by omega, h4⟩)⟩)
  (fun _ _ _ _ _ hs _ _ => hs)
  ⟨.slice none 0 0, HS.out⟩
  (fun x a' W => ∃ (u : Nat → Value) (Bq : Nat), a' = { tmps := #[u 0, u 1, .pointer (some ⟨w.heap.size, 0, none⟩), u 3, u 4, .pointer (some ⟨Bq, 0, none⟩), u 6, u 7, u 8, u 9, u 10, u 11, u 12], defers := [] } ∧ W.heap[Bq]? = some (.cells #[.int .i64 x.1.f0, .int .i64 x.1.f1] 25 (0, 0)))
  (fun x a' _ X Y row hs hg hr => by
   obtain ⟨u, Bq, h1, h2⟩ := hs
   exact ⟨u, Bq, h1, (hg.block Bq (blk_lt2 h2) (fun e => by obtain ⟨_, o, ho, hc⟩ := hr Bq e.symm; rw [h2] at ho; cases ho; cases hc)).trans h2⟩) ?assign ?body ?done ?stop
 case stop =>
  rintro D c pre W _ _ h _
  exact h.elim
 case assign =>
  intro l pre x W K hI hK
  gi_wp2
  obtain ⟨v, h1⟩ := hI
  have hb := below_alloc (Below.refl W.heap.size W) (Obj.cells #[Value.int IntKind.i64 x.1.f0, Value.int IntKind.i64 x.1.f1] 25)
  refine hK _ _ ⟨hb.size, fun k o _ hk _ => blk_below2 hb hk⟩ (KpM.quiet hb (by have := h1.lt; omega) h1.lt) ⟨v, h1.quiet hb⟩ ⟨fun k => ([_, _, undef, _, _, undef, _, _, _, _, _, _, _] : List Value).getD k undef, _, rfl, blk_new _ _⟩
 case body =>
  rintro l pre x a' W hl _ hI ⟨u, Bq, rfl, hq⟩ hlt
  obtain ⟨v, hC⟩ := hI
  have c2 := hC.box.cell
  have c50 : W.cell? ⟨Bq, 0, none⟩ = some (.int .i64 x.1.f0) := (blk_cell hq 0).trans rfl
  have c51 : W.cell? ⟨Bq, 1, none⟩ = some (.int .i64 x.1.f1) := (blk_cell hq 1).trans rfl
  have hb := below_alloc (Below.refl W.heap.size W) (Obj.cells #[Value.int IntKind.i64 x.1.f0, Value.int IntKind.i64 x.1.f1] 25)
  have hC2 := hC.quiet hb
  have HC := Aside0.mk hC
  have HL := Aside0.mk hlt
  clear hC hq
  gi_wp2_with (gi_at_builtin; refine Aside0.out ?_)
  refine ⟨?_⟩
  refine wpListIn_append_at _ rfl _ _ rfl w.heap.size v (pre.map (·.1)) [x.1] rfl hC2.row ⟨W.heap.size, 0, none⟩ 1 1 rfl rfl (fun j u hu => by simpa using World.news_of_block (cs := #[Value.int IntKind.i64 x.1.f0, Value.int IntKind.i64 x.1.f1]) (t := 25) (fr := (0, 0)) (heap_alloc_new W (Obj.cells #[Value.int IntKind.i64 x.1.f0, Value.int IntKind.i64 x.1.f1] 25)) j u (by simpa [cellsP] using hu)) (by have := HL.out; rw [List.length_map]; omega) (by have := hC2.lt; omega) ?_
  intro v' w' r1 r2 r3
  obtain ⟨g', cap', rfl⟩ := own_succ r1
  obtain ⟨L, hL⟩ : ∃ L, (pre.map (·.1) ++ [x.1]).length = L := ⟨_, rfl⟩
  rw [hL] at r1 r3 ⊢
  have HLL := Aside0.mk hL
  clear hL
  obtain ⟨b1, b2, b3, b4, b5⟩ := Boxed.appended HC.out.box (by decide) HC.out.row HC.out.below.size (Nat.le_refl _) r1 r2
  have d1 := b1.cell
  have d2 := b1.frozen
  have HBB := Aside0.mk (And.intro b2 (And.intro b3 (And.intro b4 b5)))
  have HR := Aside0.mk (And.intro r2 r3)
  clear b1 b2 b3 b4 b5 r1 r2 r3 hC2 hb
  have hpt : ∀ y : Nat, ptrAt W w.heap.size = some y ↔ v.ownBlock = some y := fun y => by rw [ptr_boxed HC.out.box]
  gi_wp2
  have hpre : (pre ++ [x]).map (·.1) = pre.map (·.1) ++ [x.1] := by simp
  refine ⟨HBB.out.2.2.1.from _, ⟨HBB.out.2.2.2, fun cs t fz hg => (HBB.out.2.2.2.block Bt hltt).trans hg, fun y cs hg hp => ?_, fun y hy => ?_⟩, _, ⟨HC.out.below.trans HBB.out.2.2.2, HBB.out.1, by rw [hpre, HLL.out]; exact HBB.out.2.1⟩⟩
  · have hne : y ≠ w.heap.size := fun e => by
     subst e
     have := HC.out.box.symm.trans hg
     cases this
    refine (Below.heap_setCell _ _ _ _ hne).trans ((HR.out.1.block y (by have := blk_lt2 hg; simp; omega) (fun e => hp ((hpt y).2 e.symm))).trans ((Below.heap_alloc W _ y (blk_lt2 hg)).trans hg))
  · rw [ptr_boxed HBB.out.1] at hy
    rcases HR.out.2 with h | h
    · exact .inl ((hpt y).2 (h.symm.trans hy))
    · refine .inr ?_
      have := Option.some.inj (h.symm.trans hy)
      simp at this
      omega
 case done =>
  rintro D ys W hD hys hI hDf
  obtain ⟨v, hC⟩ := hI
  have c2 := hC.box.cell
  rw [hys] at hC
  have HC := Aside0.mk hC
  have HD := Aside0.mk hDf
  clear hC
  dsimp only
  go_wp2
  refine leaves_marks (n₀ := w.heap.size) [{ target := .collected D, args := #[] }] W ⟨⟨D, rfl, by omega, HD.out, fun d' hd => by cases hd⟩, trivial⟩ (fun W' hb hk => ⟨_, results_tmp rfl _ _ _, _, rfl, own_keptP HC.out.row (fun j cur _ hj => hk _ _ hj (fun c e => by cases e)), HC.out.below.trans hb⟩)
/-- slices.Collect(moves). -/
theorem collect_calls (g Bp Bt : Nat) (a b : List S59) (i k : Int) (w : World) (hp0 : w.cell? ⟨Bp, 0, none⟩ = some (.int .i64 i)) (hp1 : w.cell? ⟨Bp, 1, none⟩ = some (.int .i64 k)) (htb : w.heap[Bt]? = some (.cells #[.pointer (some ⟨g, 0, none⟩)] 80 (0, 0)))
  (hT : Tb w g a b) (hi : 0 ≤ i ∧ i ≤ 1000) (hk : 0 ≤ k ∧ k ≤ 1000) :
  Calls Try.prog 67 #[.func (.func 72) #[] #[.pointer (some ⟨Bp, 0, none⟩), .pointer (some ⟨Bt, 0, none⟩)]] w fun e w' => ∃ A c, e = .returned (.slice A (movesOf a b i k).length c) ∧ (movesOf a b i k).length ≤ c ∧ Kd.C k25 w' A (movesOf a b i k).length (movesOf a b i k) ∧ Below w.heap.size w w' := by
 have HP := Aside0.mk (And.intro hp0 (And.intro hp1 (And.intro htb hT)))
 clear hp0 hp1 htb hT
 go_enter Try.func67, Try.ntmps67
 go_wp2_with fail
 refine (appendSeq_calls g Bp Bt a b i k _ HP.out.1 HP.out.2.1 HP.out.2.2.1 HP.out.2.2.2 hi hk).mono ?_
 rintro e w1 ⟨v, rfl, hO, hb⟩
 have hR : Kd.R k25 25 w1 w.heap.size (fun _ => True) v (movesOf a b i k) := ⟨fun _ _ => trivial, cellsP (movesOf a b i k), hO, repsP _ _ _ _⟩
 obtain ⟨A, c, rfl, hc, hC⟩ := Kd.R_reads hR
 have HC := Aside0.mk (And.intro hc (And.intro hC hb))
 clear hO hR hc hC hb
 go_wp2
 go_ret
 exact ⟨A, c, rfl, HC.out⟩

end Go.Proofs.Ytkocigldchiifaa.H

/- align.Height. -/
namespace Go.Proofs.Ytkocigldchiifaa.H
open Go.RowKit Go.Proofs.YtkocigldchiifaaW.PrintWords Go.Proofs.YtkocigldchiifaaW.PrintLast Go.Proofs.YtkocigldchiifaaW.PrintMore
open Go.Shelf Go.Proofs.Ytkocigldchiifaa.QA
attribute [local go_sem] Oper.semAt_some
attribute [local go_sem high] eqA25
set_option linter.unusedVariables false
set_option linter.unusedSimpArgs false



def hgt14_T : Bool × List (List Nat × List Nat) := (true, [([], []), ([0], [0]), ([1], [1]), ([2], [2]), ([2], [2]), ([2], [2]), ([5, 2], [2, 5]), ([4, 6, 2], [2, 4, 6]), ([7, 2], [2, 7]), ([3, 8, 2, 2], [2, 3, 8]), ([9, 9, 2], [2, 9]), ([2], [2]), ([10, 11, 10, 2], [2, 10, 11]), ([12, 2], [2, 12]), ([2, 13], [2, 13]), ([14, 12], [14])])
def hgt14_B : List Nat := [0, 1, 3, 7, 7, 7, 39, 119, 247, 511, 1023, 7, 4095, 8191, 16383, 32767]
theorem hgt14_tab : rtab .any (opsOf Try.f35 14) = hgt14_T := by kernel_rfl
theorem hgt14_bits : waitsOk hgt14_T.2 hgt14_B = true := by kernel_rfl
def hgt18_T : Bool × List (List Nat × List Nat) := (true, [([], []), ([], []), ([1], [1]), ([2], [2]), ([0, 3], [0, 3]), ([4], [4]), ([], []), ([6], [6]), ([7], [7]), ([8], [8]), ([5, 9], [5, 9])])
def hgt18_B : List Nat := [0, 0, 2, 6, 15, 31, 0, 64, 192, 448, 1023]
theorem hgt18_tab : rtab .any (opsOf Try.f35 18) = hgt18_T := by kernel_rfl
theorem hgt18_bits : waitsOk hgt18_T.2 hgt18_B = true := by kernel_rfl

theorem max2_mxH (k k' : IntKind) (x y : Int) : Builtin.max2 (.int k x) (.int k' y) = pure (.int k (mx x y)) := max2_int k k' x y
/-- A move. -/
def stepB (q p : S25) : Bool := isIn 0 (p.f0 - q.f0) 1 && (isIn 0 (p.f1 - q.f1) 1 && !(p.f0 - q.f0 + (p.f1 - q.f1) == 0))
/-- What is wrong at a pair of a list: 0 if nothing is. -/
def htAt (a b : List S59) (l : List S25) (i : Nat) : Int :=
 if hasP a b (rd_T25 l i).f0 (rd_T25 l i).f1 = false then 8 else if i = 0 then (if (rd_T25 l i).f0 = 0 ∧ (rd_T25 l i).f1 = 0 then 0 else 7) else if stepB (rd_T25 l ((i - 1 : Nat) : Int)) (rd_T25 l i) = false then 7 else 0
def htFrom (a b : List S59) (l : List S25) : Nat → Nat → Int → Int × Int
 | 0, _, ht => if (rd_T25 l ((l.length - 1 : Nat) : Int)).f0 = (a.length : Int) - 1 ∧ (rd_T25 l ((l.length - 1 : Nat) : Int)).f1 = (b.length : Int) - 1 then (ht, 0) else (0, 13)
 | n + 1, i, ht => if htAt a b l i = 0 then htFrom a b l n (i + 1) (mx ht (farD (rd_T59 a (rd_T25 l i).f0) (rd_T59 b (rd_T25 l i).f1))) else (0, htAt a b l i)
def htF (a b : List S59) (l : List S25) : Int × Int := if l.length = 0 then (0, 4) else htFrom a b l l.length 0 0
def align_Height.f (l0 l1 : List S59) (l2 : List S25) : Option (Int × Int) := (align_Check.f l0 l1).bind fun e => some (if e = 0 then htF l0 l1 l2 else (0, e))
theorem contains_f {a b : List S59} (q p : S25) (hq : hasP a b q.f0 q.f1 = true) (hp : hasP a b p.f0 p.f1 = true) : align_Pair_66.f 10 (movesOf a b q.f0 q.f1) p.f0 p.f1 = some (stepB q p) := by
 obtain ⟨q1, q2⟩ := (hasP_iff a b _ _).1 hq
 obtain ⟨p1, p2⟩ := (hasP_iff a b _ _).1 hp
 obtain ⟨q0, qb⟩ := q
 obtain ⟨p0, pb⟩ := p
 dsimp only at q1 q2 p1 p2 ⊢
 have hw : ∀ i : Nat, i ≤ 10 → wrap64 ((i : Int) + 1) = ((i + 1 : Nat) : Int) := fun i hi => by rw [w64' _ (by omega) (by omega)]; rfl
 have hgo : ∀ (l : List S25) (n j k : Nat), l.length - j = n → l.length ≤ 3 → j ≤ l.length → n + 1 ≤ k → (align_Pair_78.l0 k l (l.length : Int) (j : Int) p0 pb).bind (fun t => some (decide (t ≥ 0))) = some ((l.drop j).any fun x => p0 == x.f0 && pb == x.f1) := fun l n => by
  induction n with
  | zero =>
   intro j k h1 h2 h3 h4
   obtain ⟨k, rfl⟩ : ∃ k', k = k' + 1 := ⟨k - 1, by omega⟩
   rw [align_Pair_78.l0, if_neg (by omega), List.drop_eq_nil_of_le (by omega)]
   rfl
  | succ n ih =>
   intro j k h1 h2 h3 h4
   obtain ⟨k, rfl⟩ : ∃ k', k = k' + 1 := ⟨k - 1, by omega⟩
   have hj : j < l.length := by omega
   have hd : l.drop j = rd_T25 l j :: l.drop (j + 1) := by
    rw [List.drop_eq_getElem_cons hj]
    unfold rd_T25
    rw [Int.toNat_natCast, List.getD_eq_getElem?_getD, List.getElem?_eq_getElem hj]
    rfl
   rw [align_Pair_78.l0, if_pos (by omega), if_pos (by omega), if_pos (by omega), hd, List.any_cons, hw j (by omega)]
   by_cases c : (p0 == (rd_T25 l j).f0 && (pb == (rd_T25 l j).f1)) = true
   · rw [if_pos c, c]
     simp
   · rw [if_neg c]
     have c' : (p0 == (rd_T25 l j).f0 && (pb == (rd_T25 l j).f1)) = false := by simpa using c
     rw [c', ih (j + 1) k (by omega) h2 (by omega) (by omega)]
     simp
 have hlen : (movesOf a b q0 qb).length ≤ 3 := (moves_len a b q0 qb 3).1
 unfold align_Pair_66.f align_Pair_78.f
 refine (hgo (movesOf a b q0 qb) _ 0 10 rfl hlen (Nat.zero_le _) (by omega)).trans ?_
 congr 1
 rw [List.drop_zero, Bool.eq_iff_iff, List.any_eq_true]
 unfold stepB isIn
 constructor
 · rintro ⟨x, hx, hxe⟩
   have := (moves_mem hx).2
   simp only [Bool.and_eq_true, beq_iff_eq] at hxe
   rcases this with rfl | rfl | rfl <;> (simp only at hxe; simp; omega)
 · intro hs
   simp only [Bool.and_eq_true, decide_eq_true_eq, Bool.not_eq_true', beq_eq_false_iff_ne] at hs
   refine ⟨⟨p0, pb⟩, ?_, by simp⟩
   rw [moves_eq a b q0 qb q1 q2]
   have h3 : (p0 = q0 + 1 ∧ pb = qb + 1) ∨ (p0 = q0 + 1 ∧ pb = qb) ∨ (p0 = q0 ∧ pb = qb + 1) := by omega
   rcases h3 with ⟨rfl, rfl⟩ | ⟨rfl, rfl⟩ | ⟨rfl, rfl⟩
   · rw [if_pos (by omega)]; simp
   · simp only [List.mem_append]
     refine .inr (.inl ?_)
     rw [if_pos (by omega)]; simp
   · simp only [List.mem_append]
     refine .inr (.inr ?_)
     rw [if_pos (by omega)]; simp
/-- What holds at the head of the loop. -/
structure HtS (a b : List S59) (l : List S25) (i : Nat) (ht : Int) (w wr : World) : Prop where
 below : Below w.heap.size w wr
 eq : htFrom a b l l.length 0 0 = htFrom a b l (l.length - i) i ht
 has : ∀ j : Nat, j < i → hasP a b (rd_T25 l j).f0 (rd_T25 l j).f1 = true
theorem HtS.err {a b : List S59} {l : List S25} {i : Nat} {ht : Int} {w wr : World} (hs : HtS a b l i ht w wr) (hlt : i < l.length) {x : Int} (hx : htAt a b l i = x) (hne : x ≠ 0) : htFrom a b l l.length 0 0 = (0, x) := by
 rw [hs.eq, show l.length - i = (l.length - (i + 1)) + 1 by omega, htFrom, hx, if_neg hne]
theorem HtS.next {a b : List S59} {l : List S25} {i : Nat} {ht : Int} {w wr w' : World} (hs : HtS a b l i ht w wr) (hlt : i < l.length) (hx : htAt a b l i = 0) (hp : hasP a b (rd_T25 l i).f0 (rd_T25 l i).f1 = true) (hb : Below wr.heap.size wr w') : HtS a b l (i + 1) (mx ht (farD (rd_T59 a (rd_T25 l i).f0) (rd_T59 b (rd_T25 l i).f1))) w w' := by
 refine ⟨hs.below.trans (hb.mono hs.below.size), ?_, fun j hj => ?_⟩
 · rw [hs.eq, show l.length - i = (l.length - (i + 1)) + 1 by omega, htFrom, hx, if_pos rfl]
 · by_cases h1 : j = i
   · rw [h1]; exact hp
   · exact hs.has j (by omega)
section
attribute [local go_sem] max2_mxH max_two
set_option maxRecDepth 100000 in
set_option maxHeartbeats 4000000 in
theorem align_Height.calls (A0 : Option Addr) (c0 : Nat) (l0 : List S59) (A1 : Option Addr) (c1 : Nat) (l1 : List S59) (A3 : Option Addr) (c3 : Nat) (l3 : List S25) (r1 r2 : Int) (w : World) (hr0 : Kd.C k59 w A0 l0.length l0) (hc0 : l0.length ≤ c0) (hr1 : Kd.C k59 w A1 l1.length l1) (hc1 : l1.length ≤ c1) (hr3 : Kd.C k25 w A3 l3.length l3) (hc3 : l3.length ≤ c3) (hl : l3.length ≤ 1000000) (h : align_Height.f l0 l1 l3 = some (r1, r2)) :
  Calls Try.prog 35 #[.slice A0 l0.length c0, .slice A1 l1.length c1, .slice A3 l3.length c3] w fun e w' => e = .returned (.tuple #[.int .i64 r1, .int .i64 r2]) ∧ Below w.heap.size w w' := by
 have hu25 := Try.underlying25
 unfold align_Height.f at h
 obtain ⟨e, he, h⟩ := Option.bind_eq_some_iff.1 h
 have HR0 := Aside0.mk hr0
 have HR1 := Aside0.mk hr1
 have HR3 := Aside0.mk hr3
 have HE := Aside0.mk he
 have HC := Aside0.mk (And.intro hc0 (And.intro hc1 hc3))
 have HL := Aside0.mk hl
 have h1 := Option.some.inj h
 clear h he hr0 hr1 hr3 hc0 hc1 hc3 hl
 by_cases h0 : e = 0
 · subst h0
   rw [if_pos rfl] at h1
   have HO := Aside0.mk (rolls_of HE.out)
   by_cases hn : l3.length = 0
   · unfold htF at h1
     rw [if_pos hn] at h1
     obtain ⟨rfl, rfl⟩ := Prod.mk.inj h1
     rw [hn]
     go_enter Try.func35, Try.ntmps35
     go_wp2_with fail
     refine (newTable_ok A0 c0 l0 A1 c1 l1 _ HR0.out HC.out.1 HR1.out HC.out.2.1 HE.out).mono ?_
     rintro e w1 ⟨g, rfl, hT, _, hb⟩
     have HB := Aside0.mk hb
     clear hT hb hn
     go_wp2
     go_ret2
     exact ⟨rfl, HB.out⟩
   · have hnb : ((l3.length : Int) == 0) = false := beq_eq_false_iff_ne.mpr (by omega)
     have hnp : 0 < l3.length := Nat.pos_of_ne_zero hn
     unfold htF at h1
     rw [if_neg hn] at h1
     have HV := Aside0.mk h1
     clear h1
     go_enter Try.func35, Try.ntmps35
     go_wp2_with fail
     refine (newTable_ok A0 c0 l0 A1 c1 l1 _ HR0.out HC.out.1 HR1.out HC.out.2.1 HE.out).mono ?_
     rintro e w1 ⟨g, rfl, hT, _, hb⟩
     have HT := Aside0.mk hT
     have HB := Aside0.mk hb
     clear hT hb
     go_wp2
     go_loopw [10, 29] (fun s10 s29 wr => ∃ (i : Nat) (ht : Int), i ≤ l3.length ∧ s10 = .int .i64 ht ∧ s29 = .int .i64 i ∧ Aside0 (HtS l0 l1 l3 i ht w1 wr)) (fun _ s29 _ => l3.length - (intOf s29).toNat)
     case atStart => exact ⟨0, 0, by omega, rfl, rfl, ⟨Below.refl _ _, by simp, fun j hj => absurd hj (Nat.not_lt_zero j)⟩⟩
     case round =>
      obtain ⟨i, ht, hi, rfl, rfl, HS⟩ := hrel
      have HTW := Aside0.mk (HT.out.below HS.out.below)
      by_cases hlt : i < l3.length
      · have hdec : decide ((i : Int) < (l3.length : Int)) = true := decide_eq_true (by omega)
        have hC := Kd.C_below (Kd.C_below HR3.out HB.out) (HS.out.below)
        obtain ⟨ad, rfl, x0, x1⟩ := at_T25 hC i (by omega) (by omega)
        have HCC := Aside0.mk hC
        clear hC
        obtain ⟨p, hp⟩ : ∃ p, rd_T25 l3 i = p := ⟨_, rfl⟩
        rw [hp, Int.toNat_natCast] at x0 x1
        have HP := Aside0.mk hp
        have hbb := below_alloc (Below.refl wr.heap.size wr) (.cells #[.int .i64 p.f0, .int .i64 p.f1] 25)
        have hbn := blk_new wr (.cells #[.int .i64 p.f0, .int .i64 p.f1] 25)
        have HBB := Aside0.mk (And.intro hbb hbn)
        have hcall := has_calls g l0 l1 p.f0 p.f1 _ (HTW.out.below hbb)
        generalize hz : hasP l0 l1 p.f0 p.f1 = z at hcall
        have HCALL := Aside0.mk hcall
        have HZ := Aside0.mk hz
        clear hp hbb hbn hcall hz
        cases z with
        | false =>
         go_wp2_with (go_at_call 46; refine HCALL.out.mono ?_; rintro e w2 ⟨rfl, hb2⟩; have HB2 := Aside0.mk hb2; clear hb2)
         go_ret2
         have h8 : htAt l0 l1 l3 i = 8 := by unfold htAt; rw [HP.out, if_pos HZ.out]
         have hv := HV.out
         rw [HS.out.err hlt h8 (by decide)] at hv
         obtain ⟨rfl, rfl⟩ := Prod.mk.inj hv
         exact ⟨rfl, HB.out.trans ((HS.out.below.trans ((below_then HBB.out.1 HBB.out.1.size HB2.out).mono HS.out.below.size)).mono HB.out.size)⟩
        | true =>
         have hb13 := HBB.out.1
         by_cases hi0 : 0 < i
         · have hgt : decide ((i : Int) > 0) = true := decide_eq_true (by omega)
           have hgt2 : decide ((0 : Int) < i) = true := decide_eq_true (by omega)
           have hz1 : ¬ ((i : Int) = 0) := by omega
           have hz2 : ((i : Int) == 0) = false := beq_false_of_ne hz1
           obtain ⟨j, hj⟩ : ∃ j, j = i - 1 := ⟨_, rfl⟩
           have e1 : wrap64 ((i : Int) - 1) = (j : Int) := by rw [w64' _ (by omega) (by have := HL.out; omega)]; omega
           have e2 : j < l3.length := by omega
           obtain ⟨ad2, had, y0, y1⟩ := at_T25 HCC.out (j : Int) (by omega) (by omega)
           cases had
           obtain ⟨q, hq⟩ : ∃ q, rd_T25 l3 (j : Int) = q := ⟨_, rfl⟩
           have hqh : hasP l0 l1 q.f0 q.f1 = true := by rw [← hq]; exact HS.out.has j (by omega)
           have hqi := (hasP_iff l0 l1 _ _).1 hqh
           have HQI := Aside0.mk (show (0 ≤ q.f0 ∧ q.f0 ≤ 1000) ∧ (0 ≤ q.f1 ∧ q.f1 ≤ 1000) from ⟨⟨by omega, by have := HO.out.ha; omega⟩, ⟨by omega, by have := HO.out.hb; omega⟩⟩)
           rw [hq, Int.toNat_natCast] at y0 y1
           have HY := Aside0.mk (And.intro y0 y1)
           have HQ := Aside0.mk (And.intro hq hj)
           obtain ⟨mv, hmv⟩ : ∃ m, movesOf l0 l1 q.f0 q.f1 = m := ⟨_, rfl⟩
           have hcn := contains_f q p hqh HZ.out
           rw [hmv] at hcn
           have HMM := Aside0.mk hmv
           generalize hz3 : stepB q p = z2 at hcn
           have HZ2 := Aside0.mk hcn
           have HZ3 := Aside0.mk hz3
           clear hz3 hcn hmv hq hqh hqi y0 y1 hj
           go_wp2_with (go_at_call 46; refine HCALL.out.mono ?_; rintro e w2 ⟨rfl, hb2⟩; have HX2 := Aside0.mk (blk_below HBB.out.2 hb2); have HW2 := Aside0.mk (below_then HBB.out.1 HBB.out.1.size hb2); clear hb2)
           have hwd : Below wr.heap.size wr w2.drew := below_then HW2.out HW2.out.size (pw_below_drewN (Below.refl _ _) 1)
           have KK := Aside0.mk (And.intro (show w2.drew.cell? ⟨wr.heap.size, 0, none⟩ = some (.int .i64 p.f0) from (blk_cell HX2.out 0).trans rfl) (And.intro (show w2.drew.cell? ⟨wr.heap.size, 1, none⟩ = some (.int .i64 p.f1) from (blk_cell HX2.out 1).trans rfl) (And.intro (pw_cell_below hwd HY.out.1) (pw_cell_below hwd HY.out.2))))
           have HWD := Aside0.mk hwd
           have HTA := Aside0.mk (HTW.out.below hwd)
           clear hwd x0 x1
           refine start_ (n := 16) (S := fun w' => w'.cell? ⟨wr.heap.size, 0, none⟩ = some (.int .i64 p.f0) ∧ w'.cell? ⟨wr.heap.size, 1, none⟩ = some (.int .i64 p.f1) ∧ w'.cell? (ad.add (j * 2)) = some (.int .i64 q.f0) ∧ w'.cell? ⟨(ad.add (j * 2)).block, (ad.add (j * 2)).off + 1, none⟩ = some (.int .i64 q.f1)) (ds := []) #[false, false, false, false, false, false, false, false, false, false, false, false, false, false, false, false] (by kernel_rfl) rfl rfl KK.out (fun hHeld => ?_)
           refine with_tabW hgt14_tab hgt14_bits (fun HT_ HW_ => ?_)
           refine take_ (i := 0) (N := some 48) (v := ?_) (a' := ?_) #[true, false, false, false, false, false, false, false, false, false, false, false, false, false, false, false] rfl rfl (take_ofW HT_.out HW_.out (by kernel_rfl)) (fun _ _ _ h => h) (Or.inl ⟨by rfl, ?_⟩) hHeld ?_ ?_
           rotate_left
           · rintro w' ⟨s0, s1, s2, s3⟩
             go_simp
             with_reducible rfl
           rotate_left
           · simp only [Act.put, List.setIfInBounds_toArray, List.set_cons_zero, List.set_cons_succ, i64_w, i32_w]
             rfl
           refine take_ (i := 1) (N := some 49) (v := ?_) (a' := ?_) #[true, true, false, false, false, false, false, false, false, false, false, false, false, false, false, false] rfl rfl (take_ofW HT_.out HW_.out (by kernel_rfl)) (fun _ _ _ h => h) (Or.inl ⟨by rfl, ?_⟩) hHeld ?_ ?_
           rotate_left
           · rintro w' ⟨s0, s1, s2, s3⟩
             go_simp
             with_reducible rfl
           rotate_left
           · simp only [Act.put, List.setIfInBounds_toArray, List.set_cons_zero, List.set_cons_succ, i64_w, i32_w]
             rfl
           refine take_ (i := 2) (N := some 50) (v := ?_) (a' := ?_) #[true, true, true, false, false, false, false, false, false, false, false, false, false, false, false, false] rfl rfl (take_ofW HT_.out HW_.out (by kernel_rfl)) (fun _ _ _ h => h) (Or.inl ⟨by rfl, ?_⟩) hHeld ?_ ?_
           rotate_left
           · rintro w' ⟨s0, s1, s2, s3⟩
             go_simp
             with_reducible rfl
           rotate_left
           · simp only [Act.put, List.setIfInBounds_toArray, List.set_cons_zero, List.set_cons_succ, i64_w, i32_w]
             rfl
           generalize w2.drew = wA at KK HWD HTA hHeld ⊢
           refine take_ (i := 3) (N := some 51) (v := ?_) (a' := ?_) #[true, true, true, true, false, false, false, false, false, false, false, false, false, false, false, false] rfl rfl (take_ofW HT_.out HW_.out (by kernel_rfl)) (fun _ _ _ h => h) (Or.inl ⟨by rfl, ?_⟩) hHeld ?_ ?_
           rotate_left
           · rintro w' ⟨s0, s1, s2, s3⟩
             go_simp
             with_reducible rfl
           rotate_left
           · simp only [Act.put, List.setIfInBounds_toArray, List.set_cons_zero, List.set_cons_succ, i64_w, i32_w]
             rfl
           refine take_ (i := 4) (N := some 52) (v := ?_) (a' := ?_) #[true, true, true, true, true, false, false, false, false, false, false, false, false, false, false, false] rfl rfl (take_ofW HT_.out HW_.out (by kernel_rfl)) (fun _ _ _ h => h) (Or.inl ⟨by rfl, ?_⟩) hHeld ?_ ?_
           rotate_left
           · rintro w' ⟨s0, s1, s2, s3⟩
             go_simp
             with_reducible rfl
           rotate_left
           · simp only [Act.put, List.setIfInBounds_toArray, List.set_cons_zero, List.set_cons_succ, i64_w, i32_w]
             rfl
           refine take_ (i := 5) (N := some 53) (v := ?_) (a' := ?_) #[true, true, true, true, true, true, false, false, false, false, false, false, false, false, false, false] rfl rfl (take_ofW HT_.out HW_.out (by kernel_rfl)) (fun _ _ _ h => h) (Or.inl ⟨by rfl, ?_⟩) hHeld ?_ ?_
           rotate_left
           · rintro w' ⟨s0, s1, s2, s3⟩
             go_simp
             with_reducible rfl
           rotate_left
           · simp only [Act.put, List.setIfInBounds_toArray, List.set_cons_zero, List.set_cons_succ, i64_w, i32_w]
             rfl
           refine take_ (i := 6) (N := some 54) (v := ?_) (a' := ?_) #[true, true, true, true, true, true, true, false, false, false, false, false, false, false, false, false] rfl rfl (take_ofW HT_.out HW_.out (by kernel_rfl)) (fun _ _ _ h => h) (Or.inl ⟨by rfl, ?_⟩) hHeld ?_ ?_
           rotate_left
           · rintro w' ⟨s0, s1, s2, s3⟩
             go_simp
             with_reducible rfl
           rotate_left
           · simp only [Act.put, List.setIfInBounds_toArray, List.set_cons_zero, List.set_cons_succ, i64_w, i32_w]
             rfl
           refine take_ (i := 7) (N := some 55) (v := ?_) (a' := ?_) #[true, true, true, true, true, true, true, true, false, false, false, false, false, false, false, false] rfl rfl (take_ofW HT_.out HW_.out (by kernel_rfl)) (fun _ _ _ h => h) (Or.inl ⟨by rfl, ?_⟩) hHeld ?_ ?_
           rotate_left
           · rintro w' ⟨s0, s1, s2, s3⟩
             go_simp
             with_reducible rfl
           rotate_left
           · simp only [Act.put, List.setIfInBounds_toArray, List.set_cons_zero, List.set_cons_succ, i64_w, i32_w]
             rfl
           refine take_ (i := 8) (N := some 56) (v := ?_) (a' := ?_) #[true, true, true, true, true, true, true, true, true, false, false, false, false, false, false, false] rfl rfl (take_ofW HT_.out HW_.out (by kernel_rfl)) (fun _ _ _ h => h) (Or.inl ⟨by rfl, ?_⟩) hHeld ?_ ?_
           rotate_left
           · rintro w' ⟨s0, s1, s2, s3⟩
             go_simp
             with_reducible rfl
           rotate_left
           · simp only [Act.put, List.setIfInBounds_toArray, List.set_cons_zero, List.set_cons_succ, i64_w, i32_w]
             rfl
           refine take_ (i := 11) (N := some 59) (v := ?_) (a' := ?_) #[true, true, true, true, true, true, true, true, true, false, false, true, false, false, false, false] rfl rfl (take_ofW HT_.out HW_.out (by kernel_rfl)) (fun _ _ _ h => h) (Or.inl ⟨by rfl, ?_⟩) hHeld ?_ ?_
           rotate_left
           · rintro w' ⟨s0, s1, s2, s3⟩
             go_simp
             with_reducible rfl
           rotate_left
           · simp only [Act.put, List.setIfInBounds_toArray, List.set_cons_zero, List.set_cons_succ, i64_w, i32_w]
             rfl
           refine one_ (i := 9) (N := some 57) #[true, true, true, true, true, true, true, true, true, true, false, true, false, false, false, false] rfl rfl (one_of HT_.out (by kernel_rfl)) (by decide) (fun K hK => ?_)
           refine goes_ Try.func52 (by kernel_rfl) rfl #[.pointer (some ⟨g, 0, none⟩), .agg #[.int .i64 q.f0, .int .i64 q.f1]] (by rfl) rfl rfl (by (try simp only [List.map_toArray, List.map_cons, List.map_nil]); first | done | rfl) ?_
           refine (callsIn_wide.1 (moves_in 3 g q.f0 q.f1 wA)).mono ?_
           rintro e w3 ⟨rfl, hw3⟩
           refine ⟨_, rfl, ?_⟩
           have hbb : Below wA.heap.size wA w3 := by rw [hw3]; exact below_alloc (below_alloc (Below.refl _ _) _) _
           have hbt : w3.heap[wA.heap.size]? = some (.cells #[.pointer (some ⟨g, 0, none⟩)] 80 (0, 0)) := by rw [hw3]; exact blk_alloc (blk_new wA _) _
           have hbp : w3.heap[wA.heap.size + 1]? = some (.cells #[.int .i64 q.f0, .int .i64 q.f1] 25 (0, 0)) := by rw [hw3]; have := blk_new (wA.alloc (.cells #[.pointer (some ⟨g, 0, none⟩)] 80)) (.cells #[.int .i64 q.f0, .int .i64 q.f1] 25); rw [World.size_alloc] at this; exact this
           have HMV := Aside0.mk (And.intro hbt (And.intro ((blk_cell hbp 0).trans rfl : w3.cell? ⟨wA.heap.size + 1, 0, none⟩ = some (.int .i64 q.f0)) (And.intro ((blk_cell hbp 1).trans rfl : w3.cell? ⟨wA.heap.size + 1, 1, none⟩ = some (.int .i64 q.f1)) (HTA.out.below hbb))))
           replace KK := Aside0.mk (And.intro (pw_cell_below hbb KK.out.1) (And.intro (pw_cell_below hbb KK.out.2.1) (And.intro (pw_cell_below hbb KK.out.2.2.1) (pw_cell_below hbb KK.out.2.2.2))))
           have HB3 := Aside0.mk (below_then HWD.out HWD.out.size hbb)
           clear hbb hbt hbp hw3
           refine hK.out _ _ KK.out (fun hHeld => ?_)
           clear hK K
           refine norm_ (a' := ?_) ?_ ?_
           rotate_left
           · show Act.put _ (some 57) _ = _
             simp only [Act.put, List.setIfInBounds_toArray, List.set_cons_zero, List.set_cons_succ, i64_w, i32_w]
             rfl
           refine one_ (i := 10) (N := some 58) #[true, true, true, true, true, true, true, true, true, true, true, true, false, false, false, false] rfl rfl (one_of HT_.out (by kernel_rfl)) (by decide) (fun K hK => ?_)
           refine goes_ Try.func67 (by kernel_rfl) rfl #[.func (.func 72) #[] #[.pointer (some ⟨wA.heap.size + 1, 0, none⟩), .pointer (some ⟨wA.heap.size, 0, none⟩)]] (by rfl) rfl rfl (by (try simp only [List.map_toArray, List.map_cons, List.map_nil]); first | done | rfl) ?_
           refine (collect_calls g (wA.heap.size + 1) wA.heap.size l0 l1 q.f0 q.f1 w3 HMV.out.2.1 HMV.out.2.2.1 HMV.out.1 HMV.out.2.2.2 HQI.out.1 HQI.out.2).mono ?_
           rintro e w4 ⟨Am, cm, rfl, hcm, hCm, hbb⟩
           refine ⟨_, rfl, ?_⟩
           rw [HMM.out] at hcm hCm ⊢
           have HCM := Aside0.mk (And.intro hcm hCm)
           replace KK := Aside0.mk (And.intro (pw_cell_below hbb KK.out.1) (And.intro (pw_cell_below hbb KK.out.2.1) (And.intro (pw_cell_below hbb KK.out.2.2.1) (pw_cell_below hbb KK.out.2.2.2))))
           have HB4 := Aside0.mk (below_then HB3.out HB3.out.size hbb)
           clear hbb hcm hCm
           refine hK.out _ _ KK.out (fun hHeld => ?_)
           clear hK K
           refine norm_ (a' := ?_) ?_ ?_
           rotate_left
           · show Act.put _ (some 58) _ = _
             simp only [Act.put, List.setIfInBounds_toArray, List.set_cons_zero, List.set_cons_succ, i64_w, i32_w]
             rfl
           refine one_ (i := 12) (N := some 60) #[true, true, true, true, true, true, true, true, true, true, true, true, true, false, false, false] rfl rfl (one_of HT_.out (by kernel_rfl)) (by decide) (fun K hK => ?_)
           refine goes_ Try.func66 (by kernel_rfl) rfl #[.slice Am mv.length cm, .agg #[.int .i64 p.f0, .int .i64 p.f1]] (by rfl) rfl rfl (by (try simp only [List.map_toArray, List.map_cons, List.map_nil]); first | done | rfl) ?_
           refine (align_Pair_66.calls 10 Am cm mv p.f0 p.f1 z2 w4 HCM.out.2 HCM.out.1 HZ2.out).mono ?_
           rintro e w5 ⟨rfl, hbb⟩
           refine ⟨_, rfl, ?_⟩
           replace KK := Aside0.mk (And.intro (pw_cell_below hbb KK.out.1) (And.intro (pw_cell_below hbb KK.out.2.1) (And.intro (pw_cell_below hbb KK.out.2.2.1) (pw_cell_below hbb KK.out.2.2.2))))
           have HW3 := Aside0.mk (below_then HB4.out HB4.out.size hbb)
           clear hbb
           refine hK.out _ _ KK.out (fun hHeld => ?_)
           clear hK K
           refine norm_ (a' := ?_) ?_ ?_
           rotate_left
           · show Act.put _ (some 60) _ = _
             simp only [Act.put, List.setIfInBounds_toArray, List.set_cons_zero, List.set_cons_succ, i64_w, i32_w]
             rfl
           refine take_ (i := 13) (N := some 61) (v := ?_) (a' := ?_) #[true, true, true, true, true, true, true, true, true, true, true, true, true, true, false, false] rfl rfl (take_ofW HT_.out HW_.out (by kernel_rfl)) (fun _ _ _ h => h) (Or.inl ⟨by rfl, ?_⟩) hHeld ?_ ?_
           rotate_left
           · rintro w' ⟨s0, s1, s2, s3⟩
             go_simp
             with_reducible rfl
           rotate_left
           · simp only [Act.put, List.setIfInBounds_toArray, List.set_cons_zero, List.set_cons_succ, i64_w, i32_w]
             rfl
           refine take_ (i := 14) (N := some 62) (v := ?_) (a' := ?_) #[true, true, true, true, true, true, true, true, true, true, true, true, true, true, true, false] rfl rfl (take_ofW HT_.out HW_.out (by kernel_rfl)) (fun _ _ _ h => h) (Or.inl ⟨by rfl, ?_⟩) hHeld ?_ ?_
           rotate_left
           · rintro w' ⟨s0, s1, s2, s3⟩
             go_simp
             with_reducible rfl
           rotate_left
           · simp only [Act.put, List.setIfInBounds_toArray, List.set_cons_zero, List.set_cons_succ, i64_w, i32_w]
             rfl
           refine take_ (i := 15) (N := some 47) (v := ?_) (a' := ?_) #[true, true, true, true, true, true, true, true, true, true, true, true, true, true, true, true] rfl rfl (take_ofW HT_.out HW_.out (by kernel_rfl)) (fun _ _ _ h => h) (Or.inl ⟨by rfl, ?_⟩) hHeld ?_ ?_
           rotate_left
           · rintro w' ⟨s0, s1, s2, s3⟩
             go_simp
             with_reducible rfl
           rotate_left
           · simp only [Act.put, List.setIfInBounds_toArray, List.set_cons_zero, List.set_cons_succ, i64_w, i32_w]
             rfl
           refine done_ (done_of HT_.out (by kernel_rfl)) ?_
           cases z2 with
           | false =>
            go_wp2
            go_ret2
            have h7 : htAt l0 l1 l3 i = 7 := by unfold htAt; rw [HP.out, ← HQ.out.2, HQ.out.1, if_neg (by rw [HZ.out]; decide), if_neg (show ¬ i = 0 by omega), if_pos HZ3.out]
            have hv := HV.out
            rw [HS.out.err hlt h7 (by decide)] at hv
            obtain ⟨rfl, rfl⟩ := Prod.mk.inj hv
            exact ⟨rfl, HB.out.trans ((HS.out.below.trans (HW3.out.mono HS.out.below.size)).mono HB.out.size)⟩
           | true =>
            have hpp := (hasP_iff l0 l1 _ _).1 HZ.out
            have d0 := KK.out.1
            have d1 := KK.out.2.1
            go_wp2_with (go_at_call 47; refine (far_calls g l0 l1 p.f0 p.f1 _ (HTW.out.below HW3.out) HO.out hpp.1.1 hpp.1.2 hpp.2.1 hpp.2.2).mono ?_; rintro e w6 ⟨rfl, hb4⟩; have HW4 := Aside0.mk (below_then HW3.out HW3.out.size hb4); clear hb4)
            have h0 : htAt l0 l1 l3 (i) = 0 := by unfold htAt; rw [HP.out, ← HQ.out.2, HQ.out.1, if_neg (by rw [HZ.out]; decide), if_neg (show ¬ i = 0 by omega), if_neg (by rw [HZ3.out]; decide)]
            have hwi : wrap64 ((i : Int) + 1) = ((i + 1 : Nat) : Int) := by rw [w64' _ (by omega) (by have := HL.out; omega)]; rfl
            (try rw [hwi])
            clear hwi
            refine ⟨⟨i + 1, mx ht (farD (rd_T59 l0 p.f0) (rd_T59 l1 p.f1)), hlt, rfl, rfl, ⟨by have := HS.out.next hlt h0 (by rw [HP.out]; exact HZ.out) HW4.out; rw [HP.out] at this; exact this⟩⟩, by show l3.length - (((i + 1 : Nat) : Int)).toNat < l3.length - ((i : Int)).toNat; omega⟩
         · have hgt : decide ((i : Int) > 0) = false := decide_eq_false (by omega)
           have hgt2 : decide ((0 : Int) < (i : Int)) = false := decide_eq_false (by omega)
           have hz2 : ((i : Int) == 0) = true := beq_iff_eq.2 (by omega)
           have hz3 : decide ((i : Int) = 0) = true := decide_eq_true (by omega)
           have HI0 := Aside0.mk (show i = 0 by omega)

           by_cases hpz : p.f0 = 0 ∧ p.f1 = 0
           · have b0 : (p.f0 == 0 && p.f1 == 0) = true := by simp [hpz.1, hpz.2]
             have HPZ := Aside0.mk hpz
             clear hpz
             go_wp2_with (go_at_call 46; refine HCALL.out.mono ?_; rintro e w2 ⟨rfl, hb2⟩; have HX2 := Aside0.mk (blk_below HBB.out.2 hb2); have HW2 := Aside0.mk (below_then HBB.out.1 HBB.out.1.size hb2); have d0 : w2.cell? ⟨wr.heap.size, 0, none⟩ = some (.int .i64 p.f0) := (blk_cell HX2.out 0).trans rfl; have d1 : w2.cell? ⟨wr.heap.size, 1, none⟩ = some (.int .i64 p.f1) := (blk_cell HX2.out 1).trans rfl; clear hb2)
             have KK := Aside0.mk (And.intro (show w2.drew.cell? ⟨wr.heap.size, 0, none⟩ = some (.int .i64 p.f0) from (blk_cell HX2.out 0).trans rfl) (show w2.drew.cell? ⟨wr.heap.size, 1, none⟩ = some (.int .i64 p.f1) from (blk_cell HX2.out 1).trans rfl))
             have HW3 := Aside0.mk (show Below wr.heap.size wr w2.drew from below_then HW2.out HW2.out.size (pw_below_drewN (Below.refl _ _) 1))
             clear x0 x1 d0 d1 hz2 hz3
             refine start_ (n := 16) (S := fun w' => w'.cell? ⟨wr.heap.size, 0, none⟩ = some (.int .i64 p.f0) ∧ w'.cell? ⟨wr.heap.size, 1, none⟩ = some (.int .i64 p.f1)) (ds := []) #[false, false, false, false, false, false, false, false, false, false, false, false, false, false, false, false] (by kernel_rfl) rfl rfl KK.out (fun hHeld => ?_)
             refine with_tabW hgt14_tab hgt14_bits (fun HT_ HW_ => ?_)
             refine take_ (i := 0) (N := some 48) (v := ?_) (a' := ?_) #[true, false, false, false, false, false, false, false, false, false, false, false, false, false, false, false] rfl rfl (take_ofW HT_.out HW_.out (by kernel_rfl)) (fun _ _ _ h => h) (Or.inl ⟨by rfl, ?_⟩) hHeld ?_ ?_
             rotate_left
             · rintro w' ⟨s0, s1⟩
               go_simp
               with_reducible rfl
             rotate_left
             · simp only [Act.put, List.setIfInBounds_toArray, List.set_cons_zero, List.set_cons_succ, i64_w, i32_w]
               rfl
             refine take_ (i := 1) (N := some 49) (v := ?_) (a' := ?_) #[true, true, false, false, false, false, false, false, false, false, false, false, false, false, false, false] rfl rfl (take_ofW HT_.out HW_.out (by kernel_rfl)) (fun _ _ _ h => h) (Or.inl ⟨by rfl, ?_⟩) hHeld ?_ ?_
             rotate_left
             · rintro w' ⟨s0, s1⟩
               go_simp
               with_reducible rfl
             rotate_left
             · simp only [Act.put, List.setIfInBounds_toArray, List.set_cons_zero, List.set_cons_succ, i64_w, i32_w]
               rfl
             refine take_ (i := 2) (N := some 50) (v := ?_) (a' := ?_) #[true, true, true, false, false, false, false, false, false, false, false, false, false, false, false, false] rfl rfl (take_ofW HT_.out HW_.out (by kernel_rfl)) (fun _ _ _ h => h) (Or.inl ⟨by rfl, ?_⟩) hHeld ?_ ?_
             rotate_left
             · rintro w' ⟨s0, s1⟩
               go_simp
               with_reducible rfl
             rotate_left
             · simp only [Act.put, List.setIfInBounds_toArray, List.set_cons_zero, List.set_cons_succ, i64_w, i32_w]
               rfl
             generalize w2.drew = w5 at KK HW3 hHeld ⊢
             refine take_ (i := 3) (N := some 51) (v := undef) (a' := ?_) #[true, true, true, true, false, false, false, false, false, false, false, false, false, false, false, false] rfl rfl (take_ofW HT_.out HW_.out (by kernel_rfl)) (fun _ _ _ h => h) (Or.inr ⟨by rfl, rfl⟩) hHeld ?_ ?_
             rotate_left
             · simp only [Act.put, List.setIfInBounds_toArray, List.set_cons_zero, List.set_cons_succ, i64_w, i32_w]
               rfl
             refine take_ (i := 4) (N := some 52) (v := undef) (a' := ?_) #[true, true, true, true, true, false, false, false, false, false, false, false, false, false, false, false] rfl rfl (take_ofW HT_.out HW_.out (by kernel_rfl)) (fun _ _ _ h => h) (Or.inr ⟨by rfl, rfl⟩) hHeld ?_ ?_
             rotate_left
             · simp only [Act.put, List.setIfInBounds_toArray, List.set_cons_zero, List.set_cons_succ, i64_w, i32_w]
               rfl
             refine take_ (i := 5) (N := some 53) (v := undef) (a' := ?_) #[true, true, true, true, true, true, false, false, false, false, false, false, false, false, false, false] rfl rfl (take_ofW HT_.out HW_.out (by kernel_rfl)) (fun _ _ _ h => h) (Or.inr ⟨by rfl, rfl⟩) hHeld ?_ ?_
             rotate_left
             · simp only [Act.put, List.setIfInBounds_toArray, List.set_cons_zero, List.set_cons_succ, i64_w, i32_w]
               rfl
             refine take_ (i := 6) (N := some 54) (v := undef) (a' := ?_) #[true, true, true, true, true, true, true, false, false, false, false, false, false, false, false, false] rfl rfl (take_ofW HT_.out HW_.out (by kernel_rfl)) (fun _ _ _ h => h) (Or.inr ⟨by rfl, rfl⟩) hHeld ?_ ?_
             rotate_left
             · simp only [Act.put, List.setIfInBounds_toArray, List.set_cons_zero, List.set_cons_succ, i64_w, i32_w]
               rfl
             refine take_ (i := 7) (N := some 55) (v := undef) (a' := ?_) #[true, true, true, true, true, true, true, true, false, false, false, false, false, false, false, false] rfl rfl (take_ofW HT_.out HW_.out (by kernel_rfl)) (fun _ _ _ h => h) (Or.inr ⟨by rfl, rfl⟩) hHeld ?_ ?_
             rotate_left
             · simp only [Act.put, List.setIfInBounds_toArray, List.set_cons_zero, List.set_cons_succ, i64_w, i32_w]
               rfl
             refine take_ (i := 8) (N := some 56) (v := undef) (a' := ?_) #[true, true, true, true, true, true, true, true, true, false, false, false, false, false, false, false] rfl rfl (take_ofW HT_.out HW_.out (by kernel_rfl)) (fun _ _ _ h => h) (Or.inr ⟨by rfl, rfl⟩) hHeld ?_ ?_
             rotate_left
             · simp only [Act.put, List.setIfInBounds_toArray, List.set_cons_zero, List.set_cons_succ, i64_w, i32_w]
               rfl
             refine take_ (i := 9) (N := some 57) (v := undef) (a' := ?_) #[true, true, true, true, true, true, true, true, true, true, false, false, false, false, false, false] rfl rfl (take_ofW HT_.out HW_.out (by kernel_rfl)) (fun _ _ _ h => h) (Or.inr ⟨by rfl, rfl⟩) hHeld ?_ ?_
             rotate_left
             · simp only [Act.put, List.setIfInBounds_toArray, List.set_cons_zero, List.set_cons_succ, i64_w, i32_w]
               rfl
             refine take_ (i := 10) (N := some 58) (v := undef) (a' := ?_) #[true, true, true, true, true, true, true, true, true, true, true, false, false, false, false, false] rfl rfl (take_ofW HT_.out HW_.out (by kernel_rfl)) (fun _ _ _ h => h) (Or.inr ⟨by rfl, rfl⟩) hHeld ?_ ?_
             rotate_left
             · simp only [Act.put, List.setIfInBounds_toArray, List.set_cons_zero, List.set_cons_succ, i64_w, i32_w]
               rfl
             refine take_ (i := 11) (N := some 59) (v := undef) (a' := ?_) #[true, true, true, true, true, true, true, true, true, true, true, true, false, false, false, false] rfl rfl (take_ofW HT_.out HW_.out (by kernel_rfl)) (fun _ _ _ h => h) (Or.inr ⟨by rfl, rfl⟩) hHeld ?_ ?_
             rotate_left
             · simp only [Act.put, List.setIfInBounds_toArray, List.set_cons_zero, List.set_cons_succ, i64_w, i32_w]
               rfl
             refine take_ (i := 12) (N := some 60) (v := undef) (a' := ?_) #[true, true, true, true, true, true, true, true, true, true, true, true, true, false, false, false] rfl rfl (take_ofW HT_.out HW_.out (by kernel_rfl)) (fun _ _ _ h => h) (Or.inr ⟨by rfl, rfl⟩) hHeld ?_ ?_
             rotate_left
             · simp only [Act.put, List.setIfInBounds_toArray, List.set_cons_zero, List.set_cons_succ, i64_w, i32_w]
               rfl
             refine take_ (i := 13) (N := some 61) (v := undef) (a' := ?_) #[true, true, true, true, true, true, true, true, true, true, true, true, true, true, false, false] rfl rfl (take_ofW HT_.out HW_.out (by kernel_rfl)) (fun _ _ _ h => h) (Or.inr ⟨by rfl, rfl⟩) hHeld ?_ ?_
             rotate_left
             · simp only [Act.put, List.setIfInBounds_toArray, List.set_cons_zero, List.set_cons_succ, i64_w, i32_w]
               rfl
             refine take_ (i := 14) (N := some 62) (v := ?_) (a' := ?_) #[true, true, true, true, true, true, true, true, true, true, true, true, true, true, true, false] rfl rfl (take_ofW HT_.out HW_.out (by kernel_rfl)) (fun _ _ _ h => h) (Or.inl ⟨by rfl, ?_⟩) hHeld ?_ ?_
             rotate_left
             · rintro w' ⟨s0, s1⟩
               go_simp
               with_reducible rfl
             rotate_left
             · simp only [Act.put, List.setIfInBounds_toArray, List.set_cons_zero, List.set_cons_succ, i64_w, i32_w]
               rfl
             refine take_ (i := 15) (N := some 47) (v := ?_) (a' := ?_) #[true, true, true, true, true, true, true, true, true, true, true, true, true, true, true, true] rfl rfl (take_ofW HT_.out HW_.out (by kernel_rfl)) (fun _ _ _ h => h) (Or.inl ⟨by rfl, ?_⟩) hHeld ?_ ?_
             rotate_left
             · rintro w' ⟨s0, s1⟩
               go_simp
               with_reducible rfl
             rotate_left
             · simp only [Act.put, List.setIfInBounds_toArray, List.set_cons_zero, List.set_cons_succ, i64_w, i32_w]
               rfl
             refine done_ (done_of HT_.out (by kernel_rfl)) ?_
             have hpp := (hasP_iff l0 l1 _ _).1 HZ.out
             have d0 := KK.out.1
             have d1 := KK.out.2
             go_wp2_with (go_at_call 47; refine (far_calls g l0 l1 p.f0 p.f1 _ (HTW.out.below HW3.out) HO.out hpp.1.1 hpp.1.2 hpp.2.1 hpp.2.2).mono ?_; rintro e w6 ⟨rfl, hb4⟩; have HW4 := Aside0.mk (below_then HW3.out HW3.out.size hb4); clear hb4)
             have h0 : htAt l0 l1 l3 (i) = 0 := by unfold htAt; rw [HP.out, if_neg (by rw [HZ.out]; decide), if_pos HI0.out, if_pos HPZ.out]
             have hwi : wrap64 ((i : Int) + 1) = ((i + 1 : Nat) : Int) := by rw [w64' _ (by omega) (by have := HL.out; omega)]; rfl
             (try rw [hwi])
             clear hwi
             refine ⟨⟨i + 1, mx ht (farD (rd_T59 l0 p.f0) (rd_T59 l1 p.f1)), hlt, rfl, rfl, ⟨by have := HS.out.next hlt h0 (by rw [HP.out]; exact HZ.out) HW4.out; rw [HP.out] at this; exact this⟩⟩, by show l3.length - (((i + 1 : Nat) : Int)).toNat < l3.length - ((i : Int)).toNat; omega⟩
           · have b0 : (p.f0 == 0 && p.f1 == 0) = false := by
              cases h : (p.f0 == 0 && p.f1 == 0) with
              | false => rfl
              | true => simp at h; exact absurd h hpz
             have HPZ := Aside0.mk hpz
             clear hpz
             go_wp2_with (go_at_call 46; refine HCALL.out.mono ?_; rintro e w2 ⟨rfl, hb2⟩; have HX2 := Aside0.mk (blk_below HBB.out.2 hb2); have HW2 := Aside0.mk (below_then HBB.out.1 HBB.out.1.size hb2); have d0 : w2.cell? ⟨wr.heap.size, 0, none⟩ = some (.int .i64 p.f0) := (blk_cell HX2.out 0).trans rfl; have d1 : w2.cell? ⟨wr.heap.size, 1, none⟩ = some (.int .i64 p.f1) := (blk_cell HX2.out 1).trans rfl; clear hb2)
             go_ret2
             have h7 : htAt l0 l1 l3 i = 7 := by unfold htAt; rw [HP.out, if_neg (by rw [HZ.out]; decide), if_pos HI0.out, if_neg HPZ.out]
             have hv := HV.out
             rw [HS.out.err hlt h7 (by decide)] at hv
             obtain ⟨rfl, rfl⟩ := Prod.mk.inj hv
             exact ⟨rfl, HB.out.trans ((HS.out.below.trans (HW2.out.mono HS.out.below.size)).mono HB.out.size)⟩
      · have hdec : decide ((i : Int) < (l3.length : Int)) = false := decide_eq_false (by omega)
        obtain rfl : i = l3.length := by omega
        have hv := HV.out
        rw [HS.out.eq, Nat.sub_self, htFrom] at hv
        have HV2 := Aside0.mk hv
        clear hv
        have hC := Kd.C_below (Kd.C_below HR3.out HB.out) (HS.out.below)
        obtain ⟨L1, hL1⟩ : ∃ L1, L1 = l3.length - 1 := ⟨_, rfl⟩
        obtain ⟨ad, rfl, y0, y1⟩ := at_T25 hC (L1 : Int) (by omega) (by omega)
        have e1 : wrap64 ((l3.length : Int) - 1) = (L1 : Int) := by rw [w64' _ (by omega) (by have := HL.out; omega)]; omega
        have e2 : L1 < l3.length := by omega
        rw [← hL1] at HV2
        obtain ⟨q, hq⟩ : ∃ q, rd_T25 l3 (L1 : Int) = q := ⟨_, rfl⟩
        rw [hq] at HV2
        rw [hq, Int.toNat_natCast] at y0 y1
        obtain ⟨At0, ct0, At1, ct1, hTb, _, _⟩ := HTW.out
        obtain ⟨n1, hn1⟩ : ∃ n1, n1 = (l0.length : Int) - 1 := ⟨_, rfl⟩
        obtain ⟨m1, hm1⟩ : ∃ m1, m1 = (l1.length : Int) - 1 := ⟨_, rfl⟩
        rw [← hn1, ← hm1] at hTb HV2
        have g2 : wr.cell? ⟨g, 2, none⟩ = some (.int .i64 n1) := (blk_cell hTb 2).trans rfl
        have g3 : wr.cell? ⟨g, 3, none⟩ = some (.int .i64 m1) := (blk_cell hTb 3).trans rfl
        have hwd : Below wr.heap.size wr wr.drew := pw_below_drewN (Below.refl _ _) 1
        have KK := Aside0.mk (And.intro (pw_cell_below hwd y0) (And.intro (pw_cell_below hwd y1) (And.intro (pw_cell_below hwd g2) (pw_cell_below hwd g3))))
        have HWD := Aside0.mk hwd
        clear hL1 hq hn1 hm1 hTb g2 g3 y0 y1 hC hwd
        by_cases hz : q.f0 = n1 ∧ q.f1 = m1
        · have b0 : (q.f0 == n1 && q.f1 == m1) = true := by simp [hz.1, hz.2]
          have HZZ := Aside0.mk hz
          clear hz
          go_upto_region 18 with fail
          refine start_ (n := 11) (S := fun w' => w'.cell? (ad.add (L1 * 2)) = some (.int .i64 q.f0) ∧ w'.cell? ⟨(ad.add (L1 * 2)).block, (ad.add (L1 * 2)).off + 1, none⟩ = some (.int .i64 q.f1) ∧ w'.cell? ⟨g, 2, none⟩ = some (.int .i64 n1) ∧ w'.cell? ⟨g, 3, none⟩ = some (.int .i64 m1)) (ds := []) #[false, false, false, false, false, false, false, false, false, false, false] (by kernel_rfl) rfl rfl KK.out (fun hHeld => ?_)
          refine with_tabW hgt18_tab hgt18_bits (fun HT_ HW_ => ?_)
          refine take_ (i := 0) (N := some 69) (v := ?_) (a' := ?_) #[true, false, false, false, false, false, false, false, false, false, false] rfl rfl (take_ofW HT_.out HW_.out (by kernel_rfl)) (fun _ _ _ h => h) (Or.inl ⟨by rfl, ?_⟩) hHeld ?_ ?_
          rotate_left
          · rintro w' ⟨s0, s1, s2, s3⟩
            go_simp
            with_reducible rfl
          rotate_left
          · simp only [Act.put, List.setIfInBounds_toArray, List.set_cons_zero, List.set_cons_succ, i64_w, i32_w]
            rfl
          refine take_ (i := 1) (N := some 70) (v := ?_) (a' := ?_) #[true, true, false, false, false, false, false, false, false, false, false] rfl rfl (take_ofW HT_.out HW_.out (by kernel_rfl)) (fun _ _ _ h => h) (Or.inl ⟨by rfl, ?_⟩) hHeld ?_ ?_
          rotate_left
          · rintro w' ⟨s0, s1, s2, s3⟩
            go_simp
            with_reducible rfl
          rotate_left
          · simp only [Act.put, List.setIfInBounds_toArray, List.set_cons_zero, List.set_cons_succ, i64_w, i32_w]
            rfl
          refine take_ (i := 2) (N := some 71) (v := ?_) (a' := ?_) #[true, true, true, false, false, false, false, false, false, false, false] rfl rfl (take_ofW HT_.out HW_.out (by kernel_rfl)) (fun _ _ _ h => h) (Or.inl ⟨by rfl, ?_⟩) hHeld ?_ ?_
          rotate_left
          · rintro w' ⟨s0, s1, s2, s3⟩
            go_simp
            with_reducible rfl
          rotate_left
          · simp only [Act.put, List.setIfInBounds_toArray, List.set_cons_zero, List.set_cons_succ, i64_w, i32_w]
            rfl
          refine take_ (i := 3) (N := some 72) (v := ?_) (a' := ?_) #[true, true, true, true, false, false, false, false, false, false, false] rfl rfl (take_ofW HT_.out HW_.out (by kernel_rfl)) (fun _ _ _ h => h) (Or.inl ⟨by rfl, ?_⟩) hHeld ?_ ?_
          rotate_left
          · rintro w' ⟨s0, s1, s2, s3⟩
            go_simp
            with_reducible rfl
          rotate_left
          · simp only [Act.put, List.setIfInBounds_toArray, List.set_cons_zero, List.set_cons_succ, i64_w, i32_w]
            rfl
          refine take_ (i := 4) (N := some 73) (v := ?_) (a' := ?_) #[true, true, true, true, true, false, false, false, false, false, false] rfl rfl (take_ofW HT_.out HW_.out (by kernel_rfl)) (fun _ _ _ h => h) (Or.inl ⟨by rfl, ?_⟩) hHeld ?_ ?_
          rotate_left
          · rintro w' ⟨s0, s1, s2, s3⟩
            go_simp
            with_reducible rfl
          rotate_left
          · simp only [Act.put, List.setIfInBounds_toArray, List.set_cons_zero, List.set_cons_succ, i64_w, i32_w]
            rfl
          refine take_ (i := 5) (N := some 74) (v := ?_) (a' := ?_) #[true, true, true, true, true, true, false, false, false, false, false] rfl rfl (take_ofW HT_.out HW_.out (by kernel_rfl)) (fun _ _ _ h => h) (Or.inl ⟨by rfl, ?_⟩) hHeld ?_ ?_
          rotate_left
          · rintro w' ⟨s0, s1, s2, s3⟩
            go_simp
            with_reducible rfl
          rotate_left
          · simp only [Act.put, List.setIfInBounds_toArray, List.set_cons_zero, List.set_cons_succ, i64_w, i32_w]
            rfl
          refine take_ (i := 6) (N := some 75) (v := ?_) (a' := ?_) #[true, true, true, true, true, true, true, false, false, false, false] rfl rfl (take_ofW HT_.out HW_.out (by kernel_rfl)) (fun _ _ _ h => h) (Or.inl ⟨by rfl, ?_⟩) hHeld ?_ ?_
          rotate_left
          · rintro w' ⟨s0, s1, s2, s3⟩
            go_simp
            with_reducible rfl
          rotate_left
          · simp only [Act.put, List.setIfInBounds_toArray, List.set_cons_zero, List.set_cons_succ, i64_w, i32_w]
            rfl
          refine take_ (i := 7) (N := some 76) (v := ?_) (a' := ?_) #[true, true, true, true, true, true, true, true, false, false, false] rfl rfl (take_ofW HT_.out HW_.out (by kernel_rfl)) (fun _ _ _ h => h) (Or.inl ⟨by rfl, ?_⟩) hHeld ?_ ?_
          rotate_left
          · rintro w' ⟨s0, s1, s2, s3⟩
            go_simp
            with_reducible rfl
          rotate_left
          · simp only [Act.put, List.setIfInBounds_toArray, List.set_cons_zero, List.set_cons_succ, i64_w, i32_w]
            rfl
          refine take_ (i := 8) (N := some 77) (v := ?_) (a' := ?_) #[true, true, true, true, true, true, true, true, true, false, false] rfl rfl (take_ofW HT_.out HW_.out (by kernel_rfl)) (fun _ _ _ h => h) (Or.inl ⟨by rfl, ?_⟩) hHeld ?_ ?_
          rotate_left
          · rintro w' ⟨s0, s1, s2, s3⟩
            go_simp
            with_reducible rfl
          rotate_left
          · simp only [Act.put, List.setIfInBounds_toArray, List.set_cons_zero, List.set_cons_succ, i64_w, i32_w]
            rfl
          refine take_ (i := 9) (N := some 78) (v := ?_) (a' := ?_) #[true, true, true, true, true, true, true, true, true, true, false] rfl rfl (take_ofW HT_.out HW_.out (by kernel_rfl)) (fun _ _ _ h => h) (Or.inl ⟨by rfl, ?_⟩) hHeld ?_ ?_
          rotate_left
          · rintro w' ⟨s0, s1, s2, s3⟩
            go_simp
            with_reducible rfl
          rotate_left
          · simp only [Act.put, List.setIfInBounds_toArray, List.set_cons_zero, List.set_cons_succ, i64_w, i32_w]
            rfl
          refine take_ (i := 10) (N := some 79) (v := ?_) (a' := ?_) #[true, true, true, true, true, true, true, true, true, true, true] rfl rfl (take_ofW HT_.out HW_.out (by kernel_rfl)) (fun _ _ _ h => h) (Or.inl ⟨by rfl, ?_⟩) hHeld ?_ ?_
          rotate_left
          · rintro w' ⟨s0, s1, s2, s3⟩
            go_simp
            with_reducible rfl
          rotate_left
          · simp only [Act.put, List.setIfInBounds_toArray, List.set_cons_zero, List.set_cons_succ, i64_w, i32_w]
            rfl
          refine done_ (done_of HT_.out (by kernel_rfl)) ?_
          go_wp2
          go_ret2
          have hv := HV2.out
          rw [if_pos HZZ.out] at hv
          obtain ⟨rfl, rfl⟩ := Prod.mk.inj hv
          exact ⟨rfl, HB.out.trans ((HS.out.below.trans (HWD.out.mono HS.out.below.size)).mono HB.out.size)⟩
        · have b0 : (q.f0 == n1 && q.f1 == m1) = false := by
           cases h : (q.f0 == n1 && q.f1 == m1) with
           | false => rfl
           | true => simp at h; exact absurd h hz
          have HZZ := Aside0.mk hz
          clear hz
          go_upto_region 18 with fail
          refine start_ (n := 11) (S := fun w' => w'.cell? (ad.add (L1 * 2)) = some (.int .i64 q.f0) ∧ w'.cell? ⟨(ad.add (L1 * 2)).block, (ad.add (L1 * 2)).off + 1, none⟩ = some (.int .i64 q.f1) ∧ w'.cell? ⟨g, 2, none⟩ = some (.int .i64 n1) ∧ w'.cell? ⟨g, 3, none⟩ = some (.int .i64 m1)) (ds := []) #[false, false, false, false, false, false, false, false, false, false, false] (by kernel_rfl) rfl rfl KK.out (fun hHeld => ?_)
          refine with_tabW hgt18_tab hgt18_bits (fun HT_ HW_ => ?_)
          refine take_ (i := 0) (N := some 69) (v := ?_) (a' := ?_) #[true, false, false, false, false, false, false, false, false, false, false] rfl rfl (take_ofW HT_.out HW_.out (by kernel_rfl)) (fun _ _ _ h => h) (Or.inl ⟨by rfl, ?_⟩) hHeld ?_ ?_
          rotate_left
          · rintro w' ⟨s0, s1, s2, s3⟩
            go_simp
            with_reducible rfl
          rotate_left
          · simp only [Act.put, List.setIfInBounds_toArray, List.set_cons_zero, List.set_cons_succ, i64_w, i32_w]
            rfl
          refine take_ (i := 1) (N := some 70) (v := ?_) (a' := ?_) #[true, true, false, false, false, false, false, false, false, false, false] rfl rfl (take_ofW HT_.out HW_.out (by kernel_rfl)) (fun _ _ _ h => h) (Or.inl ⟨by rfl, ?_⟩) hHeld ?_ ?_
          rotate_left
          · rintro w' ⟨s0, s1, s2, s3⟩
            go_simp
            with_reducible rfl
          rotate_left
          · simp only [Act.put, List.setIfInBounds_toArray, List.set_cons_zero, List.set_cons_succ, i64_w, i32_w]
            rfl
          refine take_ (i := 2) (N := some 71) (v := ?_) (a' := ?_) #[true, true, true, false, false, false, false, false, false, false, false] rfl rfl (take_ofW HT_.out HW_.out (by kernel_rfl)) (fun _ _ _ h => h) (Or.inl ⟨by rfl, ?_⟩) hHeld ?_ ?_
          rotate_left
          · rintro w' ⟨s0, s1, s2, s3⟩
            go_simp
            with_reducible rfl
          rotate_left
          · simp only [Act.put, List.setIfInBounds_toArray, List.set_cons_zero, List.set_cons_succ, i64_w, i32_w]
            rfl
          refine take_ (i := 3) (N := some 72) (v := ?_) (a' := ?_) #[true, true, true, true, false, false, false, false, false, false, false] rfl rfl (take_ofW HT_.out HW_.out (by kernel_rfl)) (fun _ _ _ h => h) (Or.inl ⟨by rfl, ?_⟩) hHeld ?_ ?_
          rotate_left
          · rintro w' ⟨s0, s1, s2, s3⟩
            go_simp
            with_reducible rfl
          rotate_left
          · simp only [Act.put, List.setIfInBounds_toArray, List.set_cons_zero, List.set_cons_succ, i64_w, i32_w]
            rfl
          refine take_ (i := 4) (N := some 73) (v := ?_) (a' := ?_) #[true, true, true, true, true, false, false, false, false, false, false] rfl rfl (take_ofW HT_.out HW_.out (by kernel_rfl)) (fun _ _ _ h => h) (Or.inl ⟨by rfl, ?_⟩) hHeld ?_ ?_
          rotate_left
          · rintro w' ⟨s0, s1, s2, s3⟩
            go_simp
            with_reducible rfl
          rotate_left
          · simp only [Act.put, List.setIfInBounds_toArray, List.set_cons_zero, List.set_cons_succ, i64_w, i32_w]
            rfl
          refine take_ (i := 5) (N := some 74) (v := ?_) (a' := ?_) #[true, true, true, true, true, true, false, false, false, false, false] rfl rfl (take_ofW HT_.out HW_.out (by kernel_rfl)) (fun _ _ _ h => h) (Or.inl ⟨by rfl, ?_⟩) hHeld ?_ ?_
          rotate_left
          · rintro w' ⟨s0, s1, s2, s3⟩
            go_simp
            with_reducible rfl
          rotate_left
          · simp only [Act.put, List.setIfInBounds_toArray, List.set_cons_zero, List.set_cons_succ, i64_w, i32_w]
            rfl
          refine take_ (i := 6) (N := some 75) (v := ?_) (a' := ?_) #[true, true, true, true, true, true, true, false, false, false, false] rfl rfl (take_ofW HT_.out HW_.out (by kernel_rfl)) (fun _ _ _ h => h) (Or.inl ⟨by rfl, ?_⟩) hHeld ?_ ?_
          rotate_left
          · rintro w' ⟨s0, s1, s2, s3⟩
            go_simp
            with_reducible rfl
          rotate_left
          · simp only [Act.put, List.setIfInBounds_toArray, List.set_cons_zero, List.set_cons_succ, i64_w, i32_w]
            rfl
          refine take_ (i := 7) (N := some 76) (v := ?_) (a' := ?_) #[true, true, true, true, true, true, true, true, false, false, false] rfl rfl (take_ofW HT_.out HW_.out (by kernel_rfl)) (fun _ _ _ h => h) (Or.inl ⟨by rfl, ?_⟩) hHeld ?_ ?_
          rotate_left
          · rintro w' ⟨s0, s1, s2, s3⟩
            go_simp
            with_reducible rfl
          rotate_left
          · simp only [Act.put, List.setIfInBounds_toArray, List.set_cons_zero, List.set_cons_succ, i64_w, i32_w]
            rfl
          refine take_ (i := 8) (N := some 77) (v := ?_) (a' := ?_) #[true, true, true, true, true, true, true, true, true, false, false] rfl rfl (take_ofW HT_.out HW_.out (by kernel_rfl)) (fun _ _ _ h => h) (Or.inl ⟨by rfl, ?_⟩) hHeld ?_ ?_
          rotate_left
          · rintro w' ⟨s0, s1, s2, s3⟩
            go_simp
            with_reducible rfl
          rotate_left
          · simp only [Act.put, List.setIfInBounds_toArray, List.set_cons_zero, List.set_cons_succ, i64_w, i32_w]
            rfl
          refine take_ (i := 9) (N := some 78) (v := ?_) (a' := ?_) #[true, true, true, true, true, true, true, true, true, true, false] rfl rfl (take_ofW HT_.out HW_.out (by kernel_rfl)) (fun _ _ _ h => h) (Or.inl ⟨by rfl, ?_⟩) hHeld ?_ ?_
          rotate_left
          · rintro w' ⟨s0, s1, s2, s3⟩
            go_simp
            with_reducible rfl
          rotate_left
          · simp only [Act.put, List.setIfInBounds_toArray, List.set_cons_zero, List.set_cons_succ, i64_w, i32_w]
            rfl
          refine take_ (i := 10) (N := some 79) (v := ?_) (a' := ?_) #[true, true, true, true, true, true, true, true, true, true, true] rfl rfl (take_ofW HT_.out HW_.out (by kernel_rfl)) (fun _ _ _ h => h) (Or.inl ⟨by rfl, ?_⟩) hHeld ?_ ?_
          rotate_left
          · rintro w' ⟨s0, s1, s2, s3⟩
            go_simp
            with_reducible rfl
          rotate_left
          · simp only [Act.put, List.setIfInBounds_toArray, List.set_cons_zero, List.set_cons_succ, i64_w, i32_w]
            rfl
          refine done_ (done_of HT_.out (by kernel_rfl)) ?_
          go_wp2
          go_ret2
          have hv := HV2.out
          rw [if_neg HZZ.out] at hv
          obtain ⟨rfl, rfl⟩ := Prod.mk.inj hv
          exact ⟨rfl, HB.out.trans ((HS.out.below.trans (HWD.out.mono HS.out.below.size)).mono HB.out.size)⟩
 · rw [if_neg h0] at h1
   obtain ⟨rfl, rfl⟩ := Prod.mk.inj h1
   have hb0 : (e != 0) = true := by simp [h0]
   have H0 := Aside0.mk h0
   clear h0 h1
   go_enter Try.func35, Try.ntmps35
   go_wp2_with fail
   refine (newTable_no A0 c0 l0 A1 c1 l1 e _ HR0.out HC.out.1 HR1.out HC.out.2.1 HE.out H0.out).mono ?_
   rintro e w1 ⟨rfl, hb⟩
   have HB := Aside0.mk hb
   clear hb
   go_wp2
   go_ret2
   exact ⟨rfl, HB.out⟩
end

end Go.Proofs.Ytkocigldchiifaa.H

/- Heights of lists of pairs, one by one and counted. -/
namespace Go.Proofs.Ytkocigldchiifaa.H
open Go.RowKit Go.Proofs.YtkocigldchiifaaW.PrintWords Go.Proofs.YtkocigldchiifaaW.PrintLast Go.Proofs.YtkocigldchiifaaW.PrintMore
open Go.Shelf Go.Proofs.Ytkocigldchiifaa.QA
set_option linter.unusedVariables false
set_option linter.unusedSimpArgs false

theorem heights_cnt {a b : List S59} (hR : Rolls a b) (hl : a.length ≤ 5 ∧ b.length ≤ 5) : ∀ (t : Nat), t ≤ 10 → ∀ (i k h : Int) (n : Nat), 0 ≤ i → 0 ≤ k → i ≤ a.length → k ≤ b.length → ((a.length : Int) - i) + ((b.length : Int) - k) ≤ t → 3 * t + 2 ≤ n →
  ∃ L, pianolalaw07_heights.f n a b i k h = some L ∧ L.length ≤ 3 ^ t ∧ ∀ g : Int, ((L.countP (fun x => decide (x ≤ g)) : Nat) : Int) = if h ≤ g then uX a b g i k else 0 := by
 intro t
 have out : ∀ (i k h : Int), hasP a b i k = false → ∀ g : Int, (((([] : List Int).countP (fun x => decide (x ≤ g)) : Nat)) : Int) = if h ≤ g then uX a b g i k else 0 := fun i k h hp g => by
  unfold uX
  rw [hp]
  simp
 induction t with
 | zero =>
  intro _ i k h n hi hk hil hkl ht hn
  have hp : hasP a b i k = false := by
   cases hq : hasP a b i k with
   | false => rfl
   | true => have := (hasP_iff a b i k).1 hq; omega
  obtain ⟨m, rfl⟩ : ∃ m, n = m + 2 := ⟨n - 2, by omega⟩
  exact ⟨[], heights_out m hp ⟨hi, hk⟩, by simp, out i k h hp⟩
 | succ t ih =>
  intro ht10 i k h n hi hk hil hkl ht hn
  cases hp : hasP a b i k with
  | false =>
   obtain ⟨m, rfl⟩ : ∃ m, n = m + 2 := ⟨n - 2, by omega⟩
   exact ⟨[], heights_out m hp ⟨hi, hk⟩, by simp, out i k h hp⟩
  | true =>
   obtain ⟨h1, h2⟩ := (hasP_iff a b i k).1 hp
   obtain ⟨m, rfl⟩ : ∃ m, n = m + 3 := ⟨n - 3, by omega⟩
   have hm : 3 * t + 2 ≤ m := by omega
   have wa : wrap64 ((a.length : Int) - 1) = (a.length : Int) - 1 := w64' _ (by omega) (by omega)
   have wb : wrap64 ((b.length : Int) - 1) = (b.length : Int) - 1 := w64' _ (by omega) (by omega)
   have wi : wrap64 (i + 1) = i + 1 := w64' _ (by omega) (by omega)
   have wk : wrap64 (k + 1) = k + 1 := w64' _ (by omega) (by omega)
   have e0 : pianolalaw07_heights.f (m + 3) a b i k h = pianolalaw07_heights.j1 (m + 1) a b i k (mx h (dist a b i k)) (decide (i = (a.length : Int) - 1 ∧ k = (b.length : Int) - 1)) := by
    show (if i ≥ (a.length : Int) then pianolalaw07_heights.j0 (m + 2) a b i k h true else pianolalaw07_heights.j0 (m + 2) a b i k h (decide (k ≥ (b.length : Int)))) = _
    rw [if_neg (by omega), decide_eq_false (show ¬ k ≥ (b.length : Int) by omega)]
    show (if false = true then some ([] : List Int) else if 0 ≤ i then (if i < (a.length : Int) then (if 0 ≤ k then (if k < (b.length : Int) then ((pianolalaw07_far.f ((rd_T59 a i).f0) ((rd_T59 a i).f1) ((rd_T59 a i).f2) ((rd_T59 b k).f0) ((rd_T59 b k).f1) ((rd_T59 b k).f2)).bind fun t318 => (if i = (wrap64 ((a.length : Int) - 1)) then (pianolalaw07_heights.j1 (m + 1) a b i k (mx h t318) (k == (wrap64 ((b.length : Int) - 1)))) else (pianolalaw07_heights.j1 (m + 1) a b i k (mx h t318) false))) else (none)) else (none)) else (none)) else (none)) = _
    rw [if_neg (by simp), if_pos h1.1, if_pos h1.2, if_pos h2.1, if_pos h2.2, lawfar_f (rd_good hR.ga i h1) (rd_good hR.gb k h2), Option.bind_some, wa, wb]
    show (if i = (a.length : Int) - 1 then pianolalaw07_heights.j1 (m + 1) a b i k (mx h (dist a b i k)) (k == (b.length : Int) - 1) else pianolalaw07_heights.j1 (m + 1) a b i k (mx h (dist a b i k)) false) = _
    by_cases c1 : i = (a.length : Int) - 1
    · rw [if_pos c1]
      congr 1
      by_cases c2 : k = (b.length : Int) - 1
      · rw [decide_eq_true ⟨c1, c2⟩]; exact beq_iff_eq.2 c2
      · rw [decide_eq_false (fun hh => c2 hh.2)]; exact beq_eq_false_iff_ne.2 c2
    · rw [if_neg c1, decide_eq_false (fun hh => c1 hh.1)]
   rw [e0]
   obtain ⟨d, hd⟩ : ∃ d, d = mx h (dist a b i k) := ⟨_, rfl⟩
   have hdg : ∀ g, d ≤ g ↔ h ≤ g ∧ dist a b i k ≤ g := fun g => by rw [hd]; exact mx_le_iff
   rw [← hd]
   by_cases hend : i = (a.length : Int) - 1 ∧ k = (b.length : Int) - 1
   · rw [decide_eq_true hend]
     refine ⟨[d], rfl, Nat.one_le_pow _ _ (by omega), fun g => ?_⟩
     have z : ∀ x y : Int, hasP a b x y = false → uX a b g x y = 0 := fun x y hq => by unfold uX; rw [hq]; simp
     have no : ∀ x y : Int, (a.length ≤ x ∨ b.length ≤ y) → hasP a b x y = false := fun x y hxy => by
      cases hq : hasP a b x y with
      | false => rfl
      | true => have := (hasP_iff a b x y).1 hq; omega
     rw [uX_eq g hp, if_pos hend, z (i + 1) (k + 1) (no _ _ (by omega)), z (i + 1) k (no _ _ (by omega)), z i (k + 1) (no _ _ (by omega)), List.countP_cons, List.countP_nil]
     have := hdg g
     by_cases g1 : h ≤ g <;> by_cases g2 : g < dist a b i k <;> by_cases g3 : d ≤ g <;> simp only [g1, g2, g3, decide_true, decide_false, if_true, if_false] <;> first | rfl | (exfalso; omega)
   · rw [decide_eq_false hend]
     obtain ⟨L1, f1, l1, n1⟩ := ih (by omega) (i + 1) (k + 1) d m (by omega) (by omega) (by omega) (by omega) (by omega) hm
     obtain ⟨L2, f2, l2, n2⟩ := ih (by omega) (i + 1) k d m (by omega) (by omega) (by omega) (by omega) (by omega) hm
     obtain ⟨L3, f3, l3, n3⟩ := ih (by omega) i (k + 1) d m (by omega) (by omega) (by omega) (by omega) (by omega) hm
     have hpow : 3 ^ t ≤ 3 ^ 10 := Nat.pow_le_pow_right (by omega) (by omega)
     have hp10 : 3 ^ 10 = 59049 := by decide
     have e1 : pianolalaw07_heights.j1 (m + 1) a b i k d false = some (L1 ++ L2 ++ L3) := by
      show (if false = true then some [d] else ((pianolalaw07_heights.f m a b (wrap64 (i + 1)) (wrap64 (k + 1)) d).bind fun t322 => ((pianolalaw07_heights.f m a b (wrap64 (i + 1)) k d).bind fun t325 => (if t322.length + t325.length < 17592186044416 then ((some (t322 ++ t325 : List Int)).bind fun y328 => ((pianolalaw07_heights.f m a b i (wrap64 (k + 1)) d).bind fun t331 => (if y328.length + t331.length < 17592186044416 then (some (y328 ++ t331)) else (none)))) else (none))))) = _
      rw [if_neg (by simp), wi, wk, f1, Option.bind_some, f2, Option.bind_some, if_pos (by omega), Option.bind_some, f3, Option.bind_some, if_pos (by rw [List.length_append]; omega)]
     refine ⟨L1 ++ L2 ++ L3, e1, by rw [List.length_append, List.length_append, Nat.pow_succ]; omega, fun g => ?_⟩
     have m1 := n1 g
     have m2 := n2 g
     have m3 := n3 g
     rw [uX_eq g hp, if_neg hend, List.countP_append, List.countP_append]
     have := hdg g
     by_cases g1 : h ≤ g <;> by_cases g2 : g < dist a b i k <;> by_cases g3 : d ≤ g <;> simp only [g1, g2, g3, if_true, if_false] at m1 m2 m3 ⊢ <;> omega
/-- The greatest distance from a place of the list on. -/
def htMax (a b : List S59) (l : List S25) : Nat → Nat → Int → Int
 | 0, _, ht => ht
 | n + 1, i, ht => htMax a b l n (i + 1) (mx ht (dist a b (rd_T25 l i).f0 (rd_T25 l i).f1))
theorem htMax_le (a b : List S59) (l : List S25) (g : Int) : ∀ (n i : Nat) (ht : Int), htMax a b l n i ht ≤ g ↔ ht ≤ g ∧ ∀ j : Nat, i ≤ j → j < i + n → dist a b (rd_T25 l j).f0 (rd_T25 l j).f1 ≤ g := by
 intro n
 induction n with
 | zero => intro i ht; exact ⟨fun h => ⟨h, fun j h1 h2 => by omega⟩, fun h => h.1⟩
 | succ n ih =>
  intro i ht
  rw [htMax, ih, mx_le_iff]
  constructor
  · rintro ⟨⟨h1, h2⟩, h3⟩
    refine ⟨h1, fun j hj hj2 => ?_⟩
    by_cases e : j = i
    · rw [e]; exact h2
    · exact h3 j (by omega) (by omega)
  · rintro ⟨h1, h2⟩
    exact ⟨⟨h1, h2 i (Nat.le_refl _) (by omega)⟩, fun j hj hj2 => h2 j (by omega) (by omega)⟩
/-- A list that begins in the first pair and goes on by moves. -/
structure WkV (a b : List S59) (W : List S25) : Prop where
 pos : 0 < W.length
 first : rd_T25 W 0 = ⟨0, 0⟩
 has : ∀ j : Nat, j < W.length → hasP a b (rd_T25 W j).f0 (rd_T25 W j).f1 = true
 step : ∀ j : Nat, j + 1 < W.length → stepB (rd_T25 W (j : Int)) (rd_T25 W ((j + 1 : Nat) : Int)) = true
theorem WkV.at0 {a b : List S59} {W : List S25} (h : WkV a b W) {i : Nat} (hi : i < W.length) : htAt a b W i = 0 := by
 unfold htAt
 rw [if_neg (by rw [h.has i hi]; simp)]
 by_cases e : i = 0
 · subst e
   rw [if_pos rfl]
   have := h.first
   rw [show ((0 : Nat) : Int) = 0 from rfl, this]
   exact if_pos ⟨rfl, rfl⟩
 · have := h.step (i - 1) (by omega)
   rw [show i - 1 + 1 = i by omega] at this
   rw [if_neg e, if_neg (by rw [this]; simp)]
theorem WkV.ht {a b : List S59} {W : List S25} (h : WkV a b W) (hlast : rd_T25 W ((W.length - 1 : Nat) : Int) = ⟨(a.length : Int) - 1, (b.length : Int) - 1⟩) : htF a b W = (htMax a b W W.length 0 0, 0) := by
 have key : ∀ (n i : Nat) (ht : Int), i + n = W.length → htFrom a b W n i ht = (htMax a b W n i ht, 0) := by
  intro n
  induction n with
  | zero => intro i ht _; rw [htFrom, htMax, hlast]; exact if_pos ⟨rfl, rfl⟩
  | succ n ih =>
   intro i ht hi
   rw [htFrom, htMax, if_pos (h.at0 (by omega))]
   exact ih _ _ (by omega)
 unfold htF
 rw [if_neg (by have := h.pos; omega)]
 exact key _ _ _ (by omega)
theorem WkV.way {a b : List S59} {W : List S25} (h : WkV a b W) (hlast : rd_T25 W ((W.length - 1 : Nat) : Int) = ⟨(a.length : Int) - 1, (b.length : Int) - 1⟩) {g : Int} (hd : ∀ j : Nat, j < W.length → dist a b (rd_T25 W j).f0 (rd_T25 W j).f1 ≤ g) : Way a b g 0 0 := by
 have key : ∀ (n : Nat) (j : Nat), j < W.length → W.length - 1 - j = n → Way a b g (rd_T25 W j).f0 (rd_T25 W j).f1 := by
  intro n
  induction n with
  | zero =>
   intro j hj hn
   obtain rfl : j = W.length - 1 := by omega
   have e := congrArg S25.f0 hlast
   have e' := congrArg S25.f1 hlast
   exact .last _ _ e e' (h.has _ hj) (hd _ hj)
  | succ n ih =>
   intro j hj hn
   have h1 := ih (j + 1) (by omega) (by omega)
   have hs := h.step j (by omega)
   have hq := h.has (j + 1) (by omega)
   refine .step _ _ (rd_T25 W ((j + 1 : Nat) : Int)) (h.has j hj) (hd j hj) ?_ h1
   refine mem_moves.2 ⟨hq, ?_⟩
   revert hs
   generalize rd_T25 W ((j + 1 : Nat) : Int) = q
   generalize rd_T25 W (j : Int) = p
   intro hs
   obtain ⟨q0, q1⟩ := q
   obtain ⟨p0, p1⟩ := p
   unfold stepB isIn at hs
   simp only [Bool.and_eq_true, decide_eq_true_eq, Bool.not_eq_true', beq_eq_false_iff_ne] at hs
   simp only [S25.mk.injEq]
   omega
 have := key (W.length - 1) 0 h.pos (by omega)
 rw [show ((0 : Nat) : Int) = 0 from rfl, h.first] at this
 exact this
theorem stp_step {a b : List S59} {p q : S25} (h : Stp a b p q) : stepB p q = true := by
 obtain ⟨_, n, hn, rfl, _⟩ := h
 obtain ⟨p0, p1⟩ := p
 unfold stepB isIn cand3
 obtain rfl | rfl | rfl : n = 0 ∨ n = 1 ∨ n = 2 := by omega
 all_goals simp; omega
theorem walkOf_wkv {a b : List S59} (hR : Rolls a b) (hl : a.length ≤ 5 ∧ b.length ≤ 5) : WkV a b (walkOf a b) ∧ rd_T25 (walkOf a b) (((walkOf a b).length - 1 : Nat) : Int) = ⟨(a.length : Int) - 1, (b.length : Int) - 1⟩ := by
 obtain ⟨h1, h2, h3, h4, h5⟩ := walk_all hR hl
 have e : (((walkOf a b).length - 1 : Nat) : Int) = ((walkOf a b).length : Int) - 1 := by omega
 refine ⟨⟨h1, h3, fun j hj => ?_, fun j hj => by have := stp_step (h5 j hj); exact this⟩, by rw [e]; exact h4⟩
 by_cases hj2 : j + 1 < (walkOf a b).length
 · exact (h5 j hj2).1
 · rw [show (j : Int) = ((walkOf a b).length : Int) - 1 by omega, h4]
   have := hR.ha
   have := hR.hb
   exact (hasP_iff a b _ _).2 (by dsimp only; omega)
theorem walk_below {a b : List S59} (hR : Rolls a b) : ∀ (n : Nat) (i k : Int), hasP a b i k = true → restI a b i k ≤ restI a b 0 0 → ∀ q ∈ (⟨i, k⟩ :: walkFrom a b n i k : List S25), dist a b q.f0 q.f1 ≤ gapI a b := by
 intro n
 have one : ∀ i k : Int, hasP a b i k = true → restI a b i k ≤ restI a b 0 0 → dist a b i k ≤ gapI a b := fun i k hp hg => ((way_iff hR hp).1 hg).has.2
 induction n with
 | zero =>
  intro i k hp hg q hq
  rw [walkFrom, List.mem_singleton] at hq
  rw [hq]; exact one i k hp hg
 | succ n ih =>
  intro i k hp hg q hq
  rcases List.mem_cons.1 hq with rfl | hq
  · exact one i k hp hg
  · obtain ⟨h1, h2⟩ := (hasP_iff a b i k).1 hp
    by_cases he : i = (a.length : Int) - 1 ∧ k = (b.length : Int) - 1
    · rw [walkFrom, if_pos he] at hq; cases hq
    · obtain ⟨r, hr, hm, hrr⟩ := next_some a b hR i k h1 h2 he hg
      rw [walkFrom, if_neg he, hr] at hq
      exact ih r.f0 r.f1 (moves_mem hm).1 hrr q hq
theorem walkOf_ht {a b : List S59} (hR : Rolls a b) (hl : a.length ≤ 5 ∧ b.length ≤ 5) : htF a b (walkOf a b) = (gapI a b, 0) := by
 obtain ⟨hw, hlast⟩ := walkOf_wkv hR hl
 rw [hw.ht hlast, Prod.mk.injEq]
 refine ⟨eq_of_le fun g => ?_, rfl⟩
 rw [htMax_le, gap_iff hR]
 constructor
 · rintro ⟨h0, h1⟩
   exact hw.way hlast fun j hj => h1 j (Nat.zero_le _) (by omega)
 · intro hway
   have hg := (gap_iff hR g).2 hway
   have h0 := (gap_in hR).1
   refine ⟨by omega, fun j _ hj => ?_⟩
   have hb := walk_below hR (a.length + b.length) 0 0 (has0 hR) (Int.le_refl _) (rd_T25 (walkOf a b) j) (by
    unfold rd_T25
    rw [Int.toNat_natCast, List.getD_eq_getElem?_getD, List.getElem?_eq_getElem (by omega)]
    exact List.getElem_mem _)
   omega
end Go.Proofs.Ytkocigldchiifaa.H

/- Walks and barriers: no walk gets through a barrier; where there is none, there is a walk. -/
namespace Go.Proofs.Ytkocigldchiifaa.H
open Go.RowKit Go.Proofs.YtkocigldchiifaaW.PrintWords Go.Proofs.YtkocigldchiifaaW.PrintLast Go.Proofs.YtkocigldchiifaaW.PrintMore
open Go.Shelf Go.Proofs.Ytkocigldchiifaa.QA
set_option linter.unusedVariables false
set_option linter.unusedSimpArgs false

/-- The pairs of a walk from (i, k) to the last one. -/
structure Trk (a b : List S59) (h : Int) (i k : Int) (on : Int → Int → Prop) : Prop where
 at_ : on i k
 ok : ∀ x y, on x y → hasP a b x y = true ∧ dist a b x y ≤ h
 low : ∀ x y, on x y → i ≤ x ∧ k ≤ y
 last : on ((a.length : Int) - 1) ((b.length : Int) - 1)
 row : ∀ x, i ≤ x → x < a.length → ∃ y, on x y
 mono : ∀ x y x' y', on x y → on x' y' → x < x' → y ≤ y'
 fill : ∀ x y y' z, on x y → on x y' → y ≤ z → z ≤ y' → on x z
 link : ∀ x, i ≤ x → x + 1 < a.length → ∃ y z, on x y ∧ on (x + 1) z ∧ z ≤ y + 1
theorem way_trk {a b : List S59} {h i k : Int} (hw : Way a b h i k) : ∃ on, Trk a b h i k on := by
 induction hw with
 | last i k e1 e2 hp hd =>
  refine ⟨fun x y => x = i ∧ y = k, ⟨⟨rfl, rfl⟩, fun x y hh => ?_, fun x y hh => ?_, ⟨e1.symm, e2.symm⟩, fun x h1 h2 => ⟨k, by omega, rfl⟩, fun x y x' y' h1 h2 h3 => by omega, fun x y y' z h1 h2 h3 h4 => ⟨h1.1, by omega⟩, fun x h1 h2 => by omega⟩⟩
  · rw [hh.1, hh.2]; exact ⟨hp, hd⟩
  · omega
 | step i k q hp hd hq hw ih =>
  obtain ⟨on, ht⟩ := ih
  obtain ⟨hqp, hqs⟩ := moves_mem hq
  have hq0 : (q.f0 = i + 1 ∧ q.f1 = k + 1) ∨ (q.f0 = i + 1 ∧ q.f1 = k) ∨ (q.f0 = i ∧ q.f1 = k + 1) := by
   rcases hqs with rfl | rfl | rfl <;> simp
  refine ⟨fun x y => (x = i ∧ y = k) ∨ on x y, ⟨.inl ⟨rfl, rfl⟩, fun x y hh => ?_, fun x y hh => ?_, .inr ht.last, fun x h1 h2 => ?_, fun x y x' y' h1 h2 h3 => ?_, fun x y y' z h1 h2 h3 h4 => ?_, fun x h1 h2 => ?_⟩⟩
  · rcases hh with ⟨rfl, rfl⟩ | hh
    · exact ⟨hp, hd⟩
    · exact ht.ok x y hh
  · rcases hh with ⟨rfl, rfl⟩ | hh
    · omega
    · have := ht.low x y hh
      omega
  · by_cases e : x = i
    · exact ⟨k, .inl ⟨e, rfl⟩⟩
    · obtain ⟨y, hy⟩ := ht.row x (by omega) h2
      exact ⟨y, .inr hy⟩
  · rcases h1 with ⟨rfl, rfl⟩ | h1
    · rcases h2 with ⟨rfl, rfl⟩ | h2
      · omega
      · have := ht.low x' y' h2
        omega
    · rcases h2 with ⟨rfl, rfl⟩ | h2
      · have := ht.low x y h1
        omega
      · exact ht.mono x y x' y' h1 h2 h3
  · rcases h1 with ⟨rfl, rfl⟩ | h1
    · rcases h2 with ⟨_, rfl⟩ | h2
      · exact .inl ⟨rfl, by omega⟩
      · by_cases e : z = y
        · exact .inl ⟨rfl, e⟩
        · have hl := ht.low x y' h2
          have hqi : q.f0 = x ∧ q.f1 = y + 1 := by omega
          refine .inr (ht.fill x (y + 1) y' z ?_ h2 (by omega) h4)
          have := ht.at_
          rw [hqi.1, hqi.2] at this
          exact this
    · rcases h2 with ⟨rfl, rfl⟩ | h2
      · have hl := ht.low x y h1
        exact .inl ⟨rfl, by omega⟩
      · exact .inr (ht.fill x y y' z h1 h2 h3 h4)
  · by_cases e : q.f0 ≤ x
    · obtain ⟨y, z, g1, g2, g3⟩ := ht.link x e h2
      exact ⟨y, z, .inr g1, .inr g2, g3⟩
    · have hx : x = i ∧ q.f0 = i + 1 := by omega
      refine ⟨k, q.f1, .inl ⟨hx.1, rfl⟩, .inr ?_, by omega⟩
      have := ht.at_
      rw [hx.2] at this
      rw [hx.1]
      exact this
theorem preB_iff (p q : S25) : preB p q = true ↔ q.f0 ≤ p.f0 + 1 ∧ p.f1 - 1 ≤ q.f1 ∧ ¬ (q.f0 = p.f0 + 1 ∧ q.f1 = p.f1 - 1) := by
 unfold preB
 simp only [Bool.and_eq_true, decide_eq_true_eq, Bool.not_eq_true', Bool.and_eq_false_iff, beq_eq_false_iff_ne]
 omega
/-- No walk gets through a barrier. -/
theorem chn_side {a b : List S59} {h : Int} {on : Int → Int → Prop} (ht : Trk a b h 0 0 on) {p : S25} (hc : Chn a b h p) : ∀ y, on p.f0 y → y < p.f1 := by
 have hoff : ∀ q : S25, q ∈ aboveOf a b h → ¬ on q.f0 q.f1 := fun q hq ho => by
  have h1 := ((mem_above a b h q).1 hq).2
  have h2 := (ht.ok _ _ ho).2
  unfold dist at h2
  omega
 have hin : ∀ q : S25, q ∈ aboveOf a b h → (0 ≤ q.f0 ∧ q.f0 < a.length) ∧ (0 ≤ q.f1 ∧ q.f1 < b.length) := fun q hq => (hasP_iff a b _ _).1 ((mem_above a b h q).1 hq).1
 have hon : ∀ x y, on x y → (0 ≤ x ∧ x < a.length) ∧ (0 ≤ y ∧ y < b.length) := fun x y ho => (hasP_iff a b _ _).1 (ht.ok x y ho).1
 induction hc with
 | beg p hp hb =>
  intro y hy
  have h1 := hin p hp
  have h2 := hon _ _ hy
  refine Classical.byContradiction fun hge => hoff p hp ?_
  unfold begB at hb
  rw [Bool.or_eq_true, beq_iff_eq, beq_iff_eq] at hb
  rcases hb with hb | hb
  · have h0 := ht.at_
    rw [hb] at hy ⊢
    exact ht.fill 0 0 y p.f1 h0 hy (by omega) (by omega)
  · have : p.f1 = y := by omega
    rw [this]; exact hy
 | step q p hq hp hpre ih =>
  intro y hy
  have h1 := hin p hp
  have h2 := hon _ _ hy
  obtain ⟨g1, g2, g3⟩ := (preB_iff q p).1 hpre
  refine Classical.byContradiction fun hge => hoff p hp ?_
  have hqin : (0 ≤ q.f0 ∧ q.f0 < a.length) ∧ (0 ≤ q.f1 ∧ q.f1 < b.length) := by
   cases hq with
   | beg _ hm _ => exact hin q hm
   | step _ _ _ hm _ => exact hin q hm
  by_cases e : p.f0 = q.f0 + 1
  · obtain ⟨u, z, k1, k2, k3⟩ := ht.link q.f0 (by omega) (by omega)
    have := ih u k1
    rw [← e] at k2
    exact ht.fill p.f0 z y p.f1 k2 hy (by omega) (by omega)
  · by_cases e2 : p.f0 = q.f0
    · have := ih y (by rw [← e2]; exact hy)
      have e3 : p.f1 = y := by omega
      rw [e3]; exact hy
    · obtain ⟨u, hu⟩ := ht.row q.f0 (by omega) (by omega)
      have k1 := ih u hu
      have k2 := ht.mono p.f0 y q.f0 u hy hu (by omega)
      have e3 : p.f1 = y := by omega
      rw [e3]; exact hy
theorem bar_way {a b : List S59} {h : Int} {l : List S25} (hb : BarOK a b h l) : ¬ Way a b h 0 0 := fun hw => by
 obtain ⟨on, ht⟩ := way_trk hw
 obtain ⟨p, hc, he⟩ := hb.chn
 have hs := chn_side ht hc
 have hon : ∀ x y, on x y → (0 ≤ x ∧ x < a.length) ∧ (0 ≤ y ∧ y < b.length) := fun x y ho => (hasP_iff a b _ _).1 (ht.ok x y ho).1
 have hpin : (0 ≤ p.f0 ∧ p.f0 < a.length) ∧ (0 ≤ p.f1 ∧ p.f1 < b.length) := by
  cases hc with
  | beg _ hm _ => exact (hasP_iff a b _ _).1 ((mem_above a b h p).1 hm).1
  | step _ _ _ hm _ => exact (hasP_iff a b _ _).1 ((mem_above a b h p).1 hm).1
 unfold endB at he
 rw [Bool.or_eq_true, beq_iff_eq, beq_iff_eq] at he
 rcases he with he | he
 · have := hs ((b.length : Int) - 1) (by rw [he]; exact ht.last)
   omega
 · obtain ⟨y, hy⟩ := ht.row p.f0 (by omega) (by omega)
   have := hs y hy
   have := hon _ _ hy
   omega
theorem least_of (P : Nat → Prop) (n : Nat) (h : P n) : ∃ k, P k ∧ ∀ j, P j → k ≤ j := by
 induction n using Nat.strongRecOn with
 | _ n ih =>
  by_cases hex : ∃ j, j < n ∧ P j
  · obtain ⟨j, hj, hp⟩ := hex
    exact ih j hj hp
  · exact ⟨n, h, fun j hj => Classical.byContradiction fun hn => hex ⟨j, by omega, hj⟩⟩
/-- Where no barrier ends there is a walk. -/
theorem way_or {a b : List S59} {h : Int} (ha : 0 < a.length) (hb : 0 < b.length) (hno : ∀ p, Chn a b h p → endB a b p.f0 p.f1 = false) : Way a b h 0 0 := by
 have hin : ∀ p, Chn a b h p → (0 ≤ p.f0 ∧ p.f0 < a.length) ∧ (0 ≤ p.f1 ∧ p.f1 < b.length) := fun p hc => by
  cases hc with
  | beg _ hm _ => exact (hasP_iff a b _ _).1 ((mem_above a b h p).1 hm).1
  | step _ _ _ hm _ => exact (hasP_iff a b _ _).1 ((mem_above a b h p).1 hm).1
 -- the least column that is reached at or below a line
 have hc : ∀ i : Int, ∃ k : Nat, (k = b.length ∨ ∃ p, Chn a b h p ∧ i ≤ p.f0 ∧ p.f1 = (k : Int)) ∧ ∀ p, Chn a b h p → i ≤ p.f0 → (k : Int) ≤ p.f1 := fun i => by
  obtain ⟨k, h1, h2⟩ := least_of (fun k => k = b.length ∨ ∃ p, Chn a b h p ∧ i ≤ p.f0 ∧ p.f1 = (k : Int)) b.length (.inl rfl)
  refine ⟨k, h1, fun p hp hi => ?_⟩
  have h3 := hin p hp
  have h4 := h2 p.f1.toNat (.inr ⟨p, hp, hi, by omega⟩)
  omega
 obtain ⟨c, hC⟩ : ∃ c : Int → Nat, ∀ i, (c i = b.length ∨ ∃ p, Chn a b h p ∧ i ≤ p.f0 ∧ p.f1 = (c i : Int)) ∧ ∀ p, Chn a b h p → i ≤ p.f0 → (c i : Int) ≤ p.f1 := ⟨fun i => (hc i).choose, fun i => (hc i).choose_spec⟩
 have hend : ∀ p, Chn a b h p → p.f0 ≠ (a.length : Int) - 1 ∧ p.f1 ≠ 0 := fun p hp => by
  have := hno p hp
  unfold endB at this
  rw [Bool.or_eq_false_iff, beq_eq_false_iff_ne, beq_eq_false_iff_ne] at this
  exact this
 have hpos : ∀ i, 1 ≤ c i ∧ c i ≤ b.length := fun i => by
  rcases (hC i).1 with e | ⟨p, hp, _, e⟩
  · omega
  · have h1 := hin p hp
    have h2 := (hend p hp).2
    omega
 have hmono : ∀ i, c i ≤ c (i + 1) := fun i => by
  rcases (hC (i + 1)).1 with e | ⟨p, hp, hi, e⟩
  · have := (hpos i).2; omega
  · have := (hC i).2 p hp (by omega)
    omega
 have hlast : c ((a.length : Int) - 1) = b.length := by
  rcases (hC ((a.length : Int) - 1)).1 with e | ⟨p, hp, hi, e⟩
  · exact e
  · have h1 := hin p hp
    have h2 := (hend p hp).1
    omega
 -- pairs next to it are not above
 have habv : ∀ i k : Int, (0 ≤ i ∧ i < a.length) → (0 ≤ k ∧ k < c i) → (k = (c i : Int) - 1 ∨ i = 0 ∨ (c (i - 1) : Int) ≤ k) → hasP a b i k = true ∧ dist a b i k ≤ h := fun i k hi hk hcase => by
  have h1 := hpos i
  have hp : hasP a b i k = true := (hasP_iff a b i k).2 ⟨hi, ⟨hk.1, by omega⟩⟩
  refine ⟨hp, Classical.byContradiction fun hd => ?_⟩
  have hm : (⟨i, k⟩ : S25) ∈ aboveOf a b h := (mem_above a b h _).2 ⟨hp, by unfold dist at hd; simp only; omega⟩
  -- it would be reached
  have hnot : ¬ Chn a b h ⟨i, k⟩ := fun hch => by
   have h4 : (c i : Int) ≤ k := (hC i).2 ⟨i, k⟩ hch (Int.le_refl _)
   omega
  rcases hcase with e | e | e
  · rcases (hC i).1 with e2 | ⟨p, hpc, hpi, e2⟩
    · refine hnot (.beg _ hm ?_)
      unfold begB
      rw [Bool.or_eq_true, beq_iff_eq, beq_iff_eq]
      exact .inr (by simp only; omega)
    · refine hnot (.step p _ hpc hm ((preB_iff _ _).2 ⟨?_, ?_, ?_⟩)) <;> (simp only; omega)
  · refine hnot (.beg _ hm ?_)
    unfold begB
    rw [Bool.or_eq_true, beq_iff_eq, beq_iff_eq]
    exact .inl e
  · have hlt : c (i - 1) < c i := by omega
    rcases (hC (i - 1)).1 with e2 | ⟨p, hpc, hpi, e2⟩
    · omega
    · have hpi2 : p.f0 = i - 1 := by
       refine Classical.byContradiction fun hne => ?_
       have := (hC i).2 p hpc (by omega)
       omega
      refine hnot (.step p _ hpc hm ((preB_iff _ _).2 ⟨?_, ?_, ?_⟩)) <;> (simp only; omega)
 -- along it
 have hgo : ∀ (n : Nat) (i k : Int), (0 ≤ i ∧ i < a.length) → (0 ≤ k ∧ k < c i) → (k = (c i : Int) - 1 ∨ i = 0 ∨ (c (i - 1) : Int) ≤ k) → ((a.length : Int) - i) + ((b.length : Int) - k) ≤ n → Way a b h i k := by
  intro n
  induction n with
  | zero => intro i k hi hk _ hn; have := hpos i; omega
  | succ n ih =>
   intro i k hi hk hcase hn
   obtain ⟨hp, hd⟩ := habv i k hi hk hcase
   have h1 := hpos i
   by_cases e : k = (c i : Int) - 1
   · by_cases e2 : i = (a.length : Int) - 1
     · rw [e2] at e
       rw [hlast] at e
       exact .last i k e2 e hp hd
     · have h2 := hmono i
       have h3 := hpos (i + 1)
       by_cases e3 : c (i + 1) = c i
       · refine .step i k ⟨i + 1, k⟩ hp hd (mem_moves.2 ⟨(hasP_iff a b _ _).2 ⟨by simp only; omega, by simp only; omega⟩, .inr (.inl rfl)⟩) ?_
         exact ih (i + 1) k (by omega) (by omega) (.inl (by omega)) (by omega)
       · refine .step i k ⟨i + 1, k + 1⟩ hp hd (mem_moves.2 ⟨(hasP_iff a b _ _).2 ⟨by simp only; omega, by simp only; omega⟩, .inl rfl⟩) ?_
         refine ih (i + 1) (k + 1) (by omega) (by omega) (.inr (.inr ?_)) (by omega)
         rw [show i + 1 - 1 = i by omega]
         omega
   · refine .step i k ⟨i, k + 1⟩ hp hd (mem_moves.2 ⟨(hasP_iff a b _ _).2 ⟨hi, by simp only; omega⟩, .inr (.inr rfl)⟩) ?_
     exact ih i (k + 1) hi (by omega) (by omega) (by omega)
 have h1 := hpos 0
 exact hgo (a.length + b.length) 0 0 (by omega) (by omega) (.inr (.inl rfl)) (by omega)

end Go.Proofs.Ytkocigldchiifaa.H

/- What AlignEither asks. -/
namespace Go.Proofs.Ytkocigldchiifaa.H
open Go.RowKit Go.Proofs.YtkocigldchiifaaW.PrintWords Go.Proofs.YtkocigldchiifaaW.PrintLast Go.Proofs.YtkocigldchiifaaW.PrintMore
open Go.Shelf Go.Proofs.Ytkocigldchiifaa.QA
set_option linter.unusedVariables false
set_option linter.unusedSimpArgs false

/-- How many numbers of a list are at most n. -/
def cntL (L : List Int) (n : Int) : Nat := L.countP (fun x => decide (x ≤ n))
theorem cntL_snoc (L : List Int) (n : Int) {j : Nat} (hj : j < L.length) : cntL (L.take (j + 1)) n = if rd L (j : Int) ≤ n then cntL (L.take j) n + 1 else cntL (L.take j) n := by
 have e : rd L (j : Int) = L[j] := by unfold rd; rw [Int.toNat_natCast, List.getD_eq_getElem?_getD, List.getElem?_eq_getElem hj]; rfl
 unfold cntL
 rw [e, List.take_succ_eq_append_getElem hj, List.countP_append, List.countP_cons, List.countP_nil]
 by_cases h : L[j] ≤ n
 · rw [if_pos h, decide_eq_true h]; simp
 · rw [if_neg h, decide_eq_false h]; simp
theorem cntL_le (L : List Int) (n : Int) (j : Nat) : cntL (L.take j) n ≤ L.length := by
 unfold cntL
 have := List.countP_le_length (p := fun x => decide (x ≤ n)) (l := L.take j)
 rw [List.length_take] at this
 omega
structure EitF (a b : List S59) (n G : Int) (W : List S25) (L : List Int) (k k' : Nat) : Prop where
 heights : pianolalaw07_heights.f k a b 0 0 0 = some L
 len : L.length ≤ 100000
 least : pianolalaw07_least.f k' L = some G
 gap : align_Gap.f a b = some (G, 0)
 walk : align_Walk.f a b = some (W, 0)
 wlen : W.length ≤ 1000000
 height : align_Height.f a b W = some (G, 0)
 walks : align_Walks.f a b n = some (((cntL L n : Nat) : Int), 0)
 some : G ≤ n ↔ 0 < cntL L n
 way : G ≤ n ↔ Way a b n 0 0
theorem eit_f {a b : List S59} (hR : Rolls a b) (hl : a.length ≤ 5 ∧ b.length ≤ 5) {n : Int} (hn : 0 ≤ n) : ∃ G W L k k', EitF a b n G W L k k' := by
 have hp10 : 3 ^ 10 = 59049 := by decide
 obtain ⟨L, f1, l1, hc⟩ := heights_cnt hR hl 10 (by omega) 0 0 0 32 (by omega) (by omega) (by omega) (by omega) (by omega) (by omega)
 have hcp : ∀ g : Int, 0 < cntL L g ↔ ∃ x ∈ L, x ≤ g := fun g => by
  unfold cntL
  rw [List.countP_pos_iff]
  simp
 have hpos : ∀ g : Int, 0 ≤ g → (gapI a b ≤ g ↔ 0 < cntL L g) := fun g hg => by
  have h1 := hc g
  have hU : (cntL L g : Int) = cU a b g 0 0 := by
   unfold cntL
   rw [h1, if_pos hg]
   unfold uX
   rw [if_pos (has0 hR)]
  have hp := has0 hR
  obtain ⟨L2, f2, _, _, s2⟩ := heights_in hR hl 10 (by omega) 0 0 0 32 (by omega) (by omega) (by omega) (by omega) (by omega) (by omega)
  obtain rfl : L = L2 := Option.some.inj (f1.symm.trans f2)
  rw [hcp, s2 hp g, gap_iff hR]
  exact ⟨fun h => ⟨hg, h⟩, fun h => h.2⟩
 have hg0 := gap_in hR
 have hne : L ≠ [] := fun e => by
  have := (hpos (gapI a b) hg0.1).1 (Int.le_refl _)
  rw [e] at this
  exact absurd this (by simp [cntL])
 obtain ⟨r, hr, hrg⟩ := least_f L (by omega) hne
 have hneg : ∀ g : Int, g < 0 → cntL L g = 0 := fun g hg => by
  have h1 := hc g
  rw [if_neg (by omega)] at h1
  unfold cntL
  omega
 have hrG : r = gapI a b := eq_of_le fun g => by
  rw [hrg, ← hcp]
  by_cases h0 : 0 ≤ g
  · exact (hpos g h0).symm
  · rw [hneg g (by omega)]
    exact ⟨fun h => by omega, fun h => by omega⟩
 have hcheck := check_ok hR
 refine ⟨gapI a b, walkOf a b, L, 32, L.length + 1, f1, by omega, by rw [hr, hrG], gap_f hR, by unfold align_Walk.f; rw [hcheck]; rfl, ?_, by unfold align_Height.f; rw [hcheck, walkOf_ht hR hl]; rfl, ?_, hpos n hn, gap_iff hR n⟩
 · have := (walk_all hR hl).len; omega
 · unfold align_Walks.f
   rw [hcheck]
   show some (if (0 : Int) = 0 then (if n < 0 then ((0 : Int), (3 : Int)) else (cntI a b n 0 0, 0)) else _) = _
   rw [if_pos rfl, if_neg (by omega)]
   have h1 := hc n
   rw [if_pos hn] at h1
   unfold uX at h1
   rw [if_pos (has0 hR)] at h1
   obtain ⟨c1, c2⟩ := cU_cnt a b n (a.length + b.length) 0 0 (by have := hR.ha; omega) (by have := hR.hb; omega) (by omega)
   have hle := cntL_le L n L.length
   rw [List.take_length] at hle
   unfold cntL at hle ⊢
   rw [c2, h1, Int.min_eq_left (by omega)]
theorem eit_no {a b : List S59} {n G : Int} {W : List S25} {L : List Int} {k k' : Nat} (h : EitF a b n G W L k k') {l : List S25} (hb : BarOK a b n l) : ¬ G ≤ n ∧ cntL L n = 0 := by
 have h1 : ¬ G ≤ n := fun hg => bar_way hb (h.way.1 hg)
 refine ⟨h1, ?_⟩
 have := h.some
 omega
theorem way_yes {a b : List S59} (hR : Rolls a b) {n G : Int} {W : List S25} {L : List Int} {k k' : Nat} (h : EitF a b n G W L k k') (hno : ∀ p, Chn a b n p → endB a b p.f0 p.f1 = false) : G ≤ n ∧ 0 < cntL L n := by
 have h1 : G ≤ n := h.way.2 (way_or (by have := hR.ha; omega) (by have := hR.hb; omega) hno)
 exact ⟨h1, h.some.1 h1⟩
theorem bar_ver {a b : List S59} (hR : Rolls a b) {n : Int} {l : List S25} (hb : BarOK a b n l) : align_Verify.f a b n l = some 0 := by
 unfold align_Verify.f
 rw [check_ok hR]
 show some (if (0 : Int) = 0 then verF a b n l else 0) = _
 rw [if_pos rfl, (verF_zero a b n l).2 hb]
end Go.Proofs.Ytkocigldchiifaa.H

/- A drawn region whose head only reads and whose last operations stand in one order: the cheap quiet walk for its head. -/
namespace Go.Proofs.Ytkocigldchiifaa.H
open Go

section
variable {P : Program} {ops : Array Oper} {w : World}
theorem still_of_quiet {o : Oper} {a : Act} {K K' : Act → Prop} (hk : ∀ a, K a → K' a) (h : o.quiet P a (fun w' => w' = w) K) : o.still P a w K' := by
 obtain ⟨v, h1, h2⟩ := h
 have h3 := h1 w rfl
 unfold Oper.quietAt at h3
 unfold Oper.still
 generalize (execOp a.eval o).run P w = r at *
 cases r with
 | ok n w' =>
  cases n <;> simp only [Oper.quietUpon] at h3 <;> simp only [Oper.stillUpon]
  case value u => obtain ⟨e1, e2⟩ := h3; rw [e1, e2]; exact ⟨rfl, hk _ h2⟩
  case skip => obtain ⟨e1, e2⟩ := h3; rw [e1, ← e2]; exact ⟨rfl, hk _ h2⟩
  case enter f args => obtain ⟨e1, hc⟩ := h3; rw [e1]; exact ⟨rfl, v, hc, hk _ h2⟩
 | halt x w' => simp only [Oper.quietUpon] at h3
theorem wpStill_of_quiet {Q : Act → Prop} : ∀ (l : List Oper) (a : Act), wpQuiet P ops (fun w' => w' = w) Q l a → wpStill P ops w Q l a
 | [], _, h => h
 | o :: l, a, h => by
  unfold wpQuiet at h
  unfold wpStill
  split
  · rename_i hw; rw [if_pos hw] at h; exact still_of_quiet (fun a' h' => wpStill_of_quiet l a' h') h
  · rename_i hw; rw [if_neg hw] at h; exact wpStill_of_quiet l _ h
theorem region_quiet_tail {id : Nat} {Q : Exit → Act → World → Prop} {a : Act} {l : List Oper} (n : Nat) (hm : P.follows .mixedOrders = true) (hB : Region.lexTailB .any l.toArray n = true)
    (h : wpQuiet P l.toArray (fun w' => w' = w.drew) (fun a' => wpList P l.toArray Q (l.drop n) a' w.drew) (l.take n) a) : (Code.region id l.toArray true).wp P Q a w :=
 wp_region_still_tail n hm hB (wpStill_of_quiet _ _ h)
end
end Go.Proofs.Ytkocigldchiifaa.H

/- What walks reach without a wall. -/
namespace Go.Proofs.Ytkocigldchiifaa.H
open Go.RowKit Go.Proofs.YtkocigldchiifaaW.PrintWords Go.Proofs.YtkocigldchiifaaW.PrintLast Go.Proofs.YtkocigldchiifaaW.PrintMore
open Go.Shelf Go.Proofs.Ytkocigldchiifaa.QA
set_option linter.unusedVariables false
set_option linter.unusedSimpArgs false

/-- A walk from a pair to the last one, all of whose pairs are as P says. -/
inductive Wy (a b : List S59) (P : Int → Int → Prop) : Int → Int → Prop
 | last (i k : Int) : i = (a.length : Int) - 1 → k = (b.length : Int) - 1 → hasP a b i k = true → P i k → Wy a b P i k
 | step (i k : Int) (q : S25) : hasP a b i k = true → P i k → q ∈ movesOf a b i k → Wy a b P q.f0 q.f1 → Wy a b P i k
/-- The pairs of a walk from (i, k) to the last one. -/
structure TrkP (a b : List S59) (P : Int → Int → Prop) (i k : Int) (on : Int → Int → Prop) : Prop where
 at_ : on i k
 ok : ∀ x y, on x y → hasP a b x y = true ∧ P x y
 low : ∀ x y, on x y → i ≤ x ∧ k ≤ y
 last : on ((a.length : Int) - 1) ((b.length : Int) - 1)
 row : ∀ x, i ≤ x → x < a.length → ∃ y, on x y
 mono : ∀ x y x' y', on x y → on x' y' → x < x' → y ≤ y'
 fill : ∀ x y y' z, on x y → on x y' → y ≤ z → z ≤ y' → on x z
 link : ∀ x, i ≤ x → x + 1 < a.length → ∃ y z, on x y ∧ on (x + 1) z ∧ z ≤ y + 1
theorem wy_trk {a b : List S59} {P : Int → Int → Prop} {i k : Int} (hw : Wy a b P i k) : ∃ on, TrkP a b P i k on := by
 induction hw with
 | last i k e1 e2 hp hd =>
  refine ⟨fun x y => x = i ∧ y = k, ⟨⟨rfl, rfl⟩, fun x y hh => ?_, fun x y hh => ?_, ⟨e1.symm, e2.symm⟩, fun x h1 h2 => ⟨k, by omega, rfl⟩, fun x y x' y' h1 h2 h3 => by omega, fun x y y' z h1 h2 h3 h4 => ⟨h1.1, by omega⟩, fun x h1 h2 => by omega⟩⟩
  · rw [hh.1, hh.2]; exact ⟨hp, hd⟩
  · omega
 | step i k q hp hd hq hw ih =>
  obtain ⟨on, ht⟩ := ih
  obtain ⟨hqp, hqs⟩ := moves_mem hq
  have hq0 : (q.f0 = i + 1 ∧ q.f1 = k + 1) ∨ (q.f0 = i + 1 ∧ q.f1 = k) ∨ (q.f0 = i ∧ q.f1 = k + 1) := by
   rcases hqs with rfl | rfl | rfl <;> simp
  refine ⟨fun x y => (x = i ∧ y = k) ∨ on x y, ⟨.inl ⟨rfl, rfl⟩, fun x y hh => ?_, fun x y hh => ?_, .inr ht.last, fun x h1 h2 => ?_, fun x y x' y' h1 h2 h3 => ?_, fun x y y' z h1 h2 h3 h4 => ?_, fun x h1 h2 => ?_⟩⟩
  · rcases hh with ⟨rfl, rfl⟩ | hh
    · exact ⟨hp, hd⟩
    · exact ht.ok x y hh
  · rcases hh with ⟨rfl, rfl⟩ | hh
    · omega
    · have := ht.low x y hh
      omega
  · by_cases e : x = i
    · exact ⟨k, .inl ⟨e, rfl⟩⟩
    · obtain ⟨y, hy⟩ := ht.row x (by omega) h2
      exact ⟨y, .inr hy⟩
  · rcases h1 with ⟨rfl, rfl⟩ | h1
    · rcases h2 with ⟨rfl, rfl⟩ | h2
      · omega
      · have := ht.low x' y' h2
        omega
    · rcases h2 with ⟨rfl, rfl⟩ | h2
      · have := ht.low x y h1
        omega
      · exact ht.mono x y x' y' h1 h2 h3
  · rcases h1 with ⟨rfl, rfl⟩ | h1
    · rcases h2 with ⟨_, rfl⟩ | h2
      · exact .inl ⟨rfl, by omega⟩
      · by_cases e : z = y
        · exact .inl ⟨rfl, e⟩
        · have hl := ht.low x y' h2
          have hqi : q.f0 = x ∧ q.f1 = y + 1 := by omega
          refine .inr (ht.fill x (y + 1) y' z ?_ h2 (by omega) h4)
          have := ht.at_
          rw [hqi.1, hqi.2] at this
          exact this
    · rcases h2 with ⟨rfl, rfl⟩ | h2
      · have hl := ht.low x y h1
        exact .inl ⟨rfl, by omega⟩
      · exact .inr (ht.fill x y y' z h1 h2 h3 h4)
  · by_cases e : q.f0 ≤ x
    · obtain ⟨y, z, g1, g2, g3⟩ := ht.link x e h2
      exact ⟨y, z, .inr g1, .inr g2, g3⟩
    · have hx : x = i ∧ q.f0 = i + 1 := by omega
      refine ⟨k, q.f1, .inl ⟨hx.1, rfl⟩, .inr ?_, by omega⟩
      have := ht.at_
      rw [hx.2] at this
      rw [hx.1]
      exact this
/-- No walk gets through the pairs of a barrier. -/
theorem bar_wy {a b : List S59} {h : Int} {l : List S25} {P : Int → Int → Prop} (hb : BarOK a b h l) (hP : ∀ q ∈ l, ¬ P q.f0 q.f1) : ¬ Wy a b P 0 0 := fun hw => by
 obtain ⟨on, ht⟩ := wy_trk hw
 have hoff : ∀ q ∈ l, ¬ on q.f0 q.f1 := fun q hq ho => hP q hq (ht.ok _ _ ho).2
 have hin : ∀ q ∈ l, (0 ≤ q.f0 ∧ q.f0 < a.length) ∧ (0 ≤ q.f1 ∧ q.f1 < b.length) := fun q hq => (hasP_iff a b _ _).1 ((mem_above a b h q).1 (hb.mem q hq)).1
 have hon : ∀ x y, on x y → (0 ≤ x ∧ x < a.length) ∧ (0 ≤ y ∧ y < b.length) := fun x y ho => (hasP_iff a b _ _).1 (ht.ok x y ho).1
 have hside : ∀ (i : Nat) (p : S25), l[i]? = some p → ∀ y, on p.f0 y → y < p.f1 := fun i => by
  induction i with
  | zero =>
   intro p hp y hy
   have hpm := List.mem_of_getElem? hp
   have h1 := hin p hpm
   have h2 := hon _ _ hy
   refine Classical.byContradiction fun hge => hoff p hpm ?_
   have hbg := hb.beg p hp
   unfold begB at hbg
   rw [Bool.or_eq_true, beq_iff_eq, beq_iff_eq] at hbg
   rcases hbg with hbg | hbg
   · have h0 := ht.at_
     rw [hbg] at hy ⊢
     exact ht.fill 0 0 y p.f1 h0 hy (by omega) (by omega)
   · have : p.f1 = y := by omega
     rw [this]; exact hy
  | succ i ih =>
   intro p hp y hy
   have hpm := List.mem_of_getElem? hp
   have hlt := (List.getElem?_eq_some_iff.1 hp).1
   have hq : l[i]? = some (l[i]'(by omega)) := List.getElem?_eq_getElem (by omega)
   generalize l[i]'(by omega) = q at hq
   have hqm := List.mem_of_getElem? hq
   have h1 := hin p hpm
   have h2 := hon _ _ hy
   have hqin := hin q hqm
   obtain ⟨g1, g2, g3⟩ := (preB_iff q p).1 (hb.nxt i q p hq hp)
   refine Classical.byContradiction fun hge => hoff p hpm ?_
   by_cases e : p.f0 = q.f0 + 1
   · obtain ⟨u, z, k1, k2, k3⟩ := ht.link q.f0 (by omega) (by omega)
     have := ih q hq u k1
     rw [← e] at k2
     exact ht.fill p.f0 z y p.f1 k2 hy (by omega) (by omega)
   · by_cases e2 : p.f0 = q.f0
     · have := ih q hq y (by rw [← e2]; exact hy)
       have e3 : p.f1 = y := by omega
       rw [e3]; exact hy
     · obtain ⟨u, hu⟩ := ht.row q.f0 (by omega) (by omega)
       have k1 := ih q hq u hu
       have k2 := ht.mono p.f0 y q.f0 u hy hu (by omega)
       have e3 : p.f1 = y := by omega
       rw [e3]; exact hy
 have hne := hb.ne
 obtain ⟨p, hp⟩ : ∃ p, l.getLast? = some p := ⟨l.getLast hne, List.getLast?_eq_some_getLast hne⟩
 have hpi : l[l.length - 1]? = some p := by rw [← List.getLast?_eq_getElem?]; exact hp
 have hs := hside _ p hpi
 have hpin := hin p (List.mem_of_getElem? hpi)
 have he := hb.fin p hp
 unfold endB at he
 rw [Bool.or_eq_true, beq_iff_eq, beq_iff_eq] at he
 rcases he with he | he
 · have := hs ((b.length : Int) - 1) (by rw [he]; exact ht.last)
   omega
 · obtain ⟨y, hy⟩ := ht.row p.f0 (by omega) (by omega)
   have := hs y hy
   have := hon _ _ hy
   omega
/-- What walks reach from the first pair, without a wall. -/
inductive Met (w : Nat → Nat → Bool) : Nat → Nat → Prop
 | start : w 0 0 = false → Met w 0 0
 | down (i k : Nat) : Met w i k → w (i + 1) k = false → Met w (i + 1) k
 | right (i k : Nat) : Met w i k → w i (k + 1) = false → Met w i (k + 1)
 | diag (i k : Nat) : Met w i k → w (i + 1) (k + 1) = false → Met w (i + 1) (k + 1)
theorem Met.off {w : Nat → Nat → Bool} {i k : Nat} (h : Met w i k) : w i k = false := by cases h <;> assumption
theorem met_iff (w : Nat → Nat → Bool) (i k : Nat) : Met w i k ↔ w i k = false ∧ ((i = 0 ∧ k = 0) ∨ (0 < i ∧ Met w (i - 1) k) ∨ (0 < k ∧ Met w i (k - 1)) ∨ (0 < i ∧ 0 < k ∧ Met w (i - 1) (k - 1))) := by
 constructor
 · intro h
   refine ⟨h.off, ?_⟩
   cases h with
   | start _ => exact .inl ⟨rfl, rfl⟩
   | down i k h _ => exact .inr (.inl ⟨by omega, h⟩)
   | right i k h _ => exact .inr (.inr (.inl ⟨by omega, h⟩))
   | diag i k h _ => exact .inr (.inr (.inr ⟨by omega, by omega, h⟩))
 · rintro ⟨h0, h⟩
   rcases h with ⟨rfl, rfl⟩ | ⟨h1, h⟩ | ⟨h1, h⟩ | ⟨h1, h2, h⟩
   · exact .start h0
   · obtain ⟨j, rfl⟩ : ∃ j, i = j + 1 := ⟨i - 1, by omega⟩
     exact .down j k h h0
   · obtain ⟨j, rfl⟩ : ∃ j, k = j + 1 := ⟨k - 1, by omega⟩
     exact .right i j h h0
   · obtain ⟨j, rfl⟩ : ∃ j, i = j + 1 := ⟨i - 1, by omega⟩
     obtain ⟨u, rfl⟩ : ∃ u, k = u + 1 := ⟨k - 1, by omega⟩
     exact .diag j u h h0
theorem met_back {a b : List S59} {w : Nat → Nat → Bool} {i k : Nat} (h : Met w i k) (hi : i < a.length) (hk : k < b.length) : Wy a b (fun x y => w x.toNat y.toNat = false) i k → Wy a b (fun x y => w x.toNat y.toNat = false) 0 0 := by
 have hP : ∀ x y : Nat, x < a.length → y < b.length → hasP a b (x : Int) (y : Int) = true := fun x y hx hy => (hasP_iff a b _ _).2 ⟨⟨by omega, by omega⟩, ⟨by omega, by omega⟩⟩
 have ho : ∀ x y : Nat, Met w x y → w ((x : Int)).toNat ((y : Int)).toNat = false := fun x y hm => by rw [Int.toNat_natCast, Int.toNat_natCast]; exact hm.off
 induction h with
 | start _ => exact fun h => h
 | down i k hm h0 ih =>
  intro hw
  refine ih (by omega) hk (.step _ _ ⟨((i + 1 : Nat) : Int), (k : Int)⟩ (hP i k (by omega) hk) (ho i k hm) (mem_moves.2 ⟨hP (i + 1) k hi hk, .inr (.inl rfl)⟩) hw)
 | right i k hm h0 ih =>
  intro hw
  refine ih hi (by omega) (.step _ _ ⟨(i : Int), ((k + 1 : Nat) : Int)⟩ (hP i k hi (by omega)) (ho i k hm) (mem_moves.2 ⟨hP i (k + 1) hi hk, .inr (.inr rfl)⟩) hw)
 | diag i k hm h0 ih =>
  intro hw
  refine ih (by omega) (by omega) (.step _ _ ⟨((i + 1 : Nat) : Int), ((k + 1 : Nat) : Int)⟩ (hP i k (by omega) (by omega)) (ho i k hm) (mem_moves.2 ⟨hP (i + 1) (k + 1) hi hk, .inl rfl⟩) hw)
/-- The wall of a list of pairs. -/
def wallB (l : List S25) (r k : Nat) : Bool := l.any fun q => q.f0 == (r : Int) && q.f1 == (k : Int)
theorem bar_met {a b : List S59} {h : Int} {l : List S25} (hb : BarOK a b h l) (ha : 0 < a.length) (hbb : 0 < b.length) : ¬ Met (wallB l) (a.length - 1) (b.length - 1) := fun hm => by
 have hw := met_back hm (by omega) (by omega) (.last _ _ (by omega) (by omega) ((hasP_iff a b _ _).2 ⟨⟨by omega, by omega⟩, ⟨by omega, by omega⟩⟩) (by rw [Int.toNat_natCast, Int.toNat_natCast]; exact hm.off))
 refine bar_wy hb (fun q hq hP => ?_) hw
 have hqin := (hasP_iff a b _ _).1 ((mem_above a b h q).1 (hb.mem q hq)).1
 unfold wallB at hP
 rw [List.any_eq_false] at hP
 have := hP q hq
 simp only [Bool.and_eq_true, beq_iff_eq] at this
 omega

end Go.Proofs.Ytkocigldchiifaa.H
