/- Texts TB, HQ, HS, PK, PI, PL, HV, PJ, HP, TC, PM of this chapter, one behind the other. -/
import Derived.BigQuiet
import Derived.Carry
import Derived.ChangeSlices
import Derived.LoopIn
import Derived.LoopNIn
import Derived.Maps.AppendAt
import Derived.OwnWalkIn
import Derived.RangeFuncBound
import Derived.RangeFuncBox
import Derived.RangeFuncCalls
import Derived.RangeFuncLeaves
import Derived.RangeFuncNested
import Derived.RangeFuncWrites
import Derived.Shelf.Abstract
import Derived.Shelf.RegionOpen
import Derived.StillTailTactics
import Derived.TacticsInMore
import Derived.WalkKit
import Derived.WalkSmall
import Derived.WideShapes
import Derived.Test.YtkocigldchiifaaQA7
import Derived.Test.YtkocigldchiifaaXA
import Derived.Test.YtkocigldchiifaaXB
import Derived.Test.YtkocigldchiifaaXC
import Derived.Test.YtkocigldchiifaaXD
import Derived.Test.YtkocigldchiifaaXE
import Derived.Test.YtkocigldchiifaaXF
import Derived.Test.YtkocigldchiifaaXG
import Derived.Test.YtkocigldchiifaaXH
import Derived.Test.YtkocigldchiifaaXI

/- The walls and steps of AlignProved, opened. -/
namespace Go.Proofs.Ytkocigldchiifaa.H
open Go.RowKit Go.Proofs.YtkocigldchiifaaW.PrintWords Go.Proofs.YtkocigldchiifaaW.PrintLast Go.Proofs.YtkocigldchiifaaW.PrintMore
open Go.ChangeShapes Go.WideShapes Go.Joins Go.Proofs.Ytkocigldchiifaa.QA
set_option linter.unusedVariables false
set_option linter.unusedSimpArgs false

def Byte2 (x : S25) : Prop := isByte x.f0 ∧ isByte x.f1
/-- Two bytes. -/
def k75 : Kd S25 := Kd.iso (Kd.pair (Kd.int .u8) (Kd.int .u8)) (fun x : S25 => (x.f0, x.f1))
theorem k75_open {w : World} {x : S25} {cs : List Value} (h : k75.K w x cs) : cs = [.int .u8 x.f0, .int .u8 x.f1] := by
 obtain ⟨a, b, rfl, rfl, rfl⟩ := h
 rfl
theorem k75_mk (w : World) (x : S25) : k75.K w x [.int .u8 x.f0, .int .u8 x.f1] := ⟨[.int .u8 x.f0], [.int .u8 x.f1], rfl, rfl, rfl⟩
theorem at_T75 {w : World} {A : Option Addr} {n : Nat} {xs : List S25} (h : Kd.C k75 w A n xs) (i : Nat) (h1 : i < n) : ∃ ad, A = some ad ∧ w.cell? (ad.add (i * 2)) = some (.int .u8 (rd_T25 xs i).f0) ∧ w.cell? ⟨(ad.add (i * 2)).block, (ad.add (i * 2)).off + 1, none⟩ = some (.int .u8 (rd_T25 xs i).f1) := by
 obtain ⟨ad, c, e, _, hK, hc0⟩ := Kd.C_get h z25 (i : Int) (by omega) (by omega)
 have hc : ∀ j u, c[j]? = some u → w.cell? (ad.add ((i : Int).toNat * 2 + j)) = some u := hc0
 obtain rfl := k75_open hK
 rw [Int.toNat_natCast] at hc
 exact ⟨ad, e, hc 0 _ rfl, by rw [← add_field _ _ 1 (by omega)]; exact hc 1 _ rfl⟩
theorem rows75 {W : World} {a : Addr} {len cap : Nat} (hl : len ≤ cap) (hm : cap ≤ maxLen)
  (hq : ∀ i, i < len → ∃ x : S25, Byte2 x ∧ W.cell? (a.add (i * 2)) = some (.int .u8 x.f0) ∧ W.cell? (a.add (i * 2 + 1)) = some (.int .u8 x.f1)) :
  ∃ l : List S25, len = l.length ∧ Kd.C k75 W (some a) l.length l ∧ ∀ x ∈ l, Byte2 x := by
 have hM : maxLen = 9223372036854775807 := rfl
 obtain ⟨F, hF⟩ : ∃ F : Nat → S25, ∀ i, i < len → Byte2 (F i) ∧ W.cell? (a.add (i * 2)) = some (.int .u8 (F i).f0) ∧ W.cell? (a.add (i * 2 + 1)) = some (.int .u8 (F i).f1) :=
  ⟨fun i => if h : i < len then (hq i h).choose else z25, fun i h => by dsimp only; rw [dif_pos h]; exact (hq i h).choose_spec⟩
 refine ⟨(List.range len).map F, by simp, ⟨rfl, by simp; omega, fun _ => ⟨a, rfl, fun j p hj => ?_⟩⟩, fun x hx => ?_⟩
 · have hjl : j < len := by have := (List.getElem?_eq_some_iff.1 hj).1; simpa using this
   rw [List.getElem?_map, List.getElem?_range hjl] at hj
   obtain rfl := Option.some.inj hj
   obtain ⟨_, h1, h2⟩ := hF j hjl
   refine ⟨_, rfl, k75_mk _ _, fun i u hu => ?_⟩
   match i, hu with
   | 0, hu => rw [← Option.some.inj hu]; exact h1
   | 1, hu => rw [← Option.some.inj hu]; exact h2
 · obtain ⟨j, hj, rfl⟩ := List.mem_map.1 hx
   exact (hF j (by have := List.mem_range.1 hj; omega)).1
theorem trod_array2' {H : Type} {enc : TypeId × Value → H} {P : Program} {w : World} {base : Nat} {spare : Nat → Bool} {held : Bool} {t e : TypeId} {fuel : Nat} {c0 c1 : Value} {x : DataW H × List MemPlace} (ht : P.underlying t = some (.array 2 e)) (hce : P.cellsOf e = 1)
  (h : DataW.trod enc P w base spare held fuel t [c0, c1] = some x) : ∃ y0 y1 n, DataW.trod enc P w base spare held n e [c0] = some y0 ∧ DataW.trod enc P w base spare held n e [c1] = some y1 := by
 obtain ⟨xs, m, _, _, _, hl, hi⟩ := DataW.trod_array ht h
 match xs, hl with
 | [y0, y1], _ => exact ⟨y0, y1, m, by simpa [hce] using hi 0 (by omega), by simpa [hce] using hi 1 (by omega)⟩
set_option maxRecDepth 100000 in
theorem open_twos {H : Type} {enc : TypeId × Value → H} {W : World} {r : Reach} {b0 : Nat} {v : Value} {d : DataW H} {p : List MemPlace}
  (hv : Value.okWide Try.prog W r b0 73 v) (h : DataW.Trod enc Try.prog W 0 (fun _ => true) true 73 v d p) :
  ∃ A c l, v = .slice A l.length c ∧ l.length ≤ c ∧ Kd.C k75 W A l.length l ∧ ∀ x ∈ l, Byte2 x := by
 have u73 : Try.prog.underlying 73 = some (.slice 75) := by kernel_rfl
 obtain ⟨A, n, c, rfl⟩ := okWide_slice u73 hv
 have e5 : Try.prog.cellsOf 5 = 1 := by kernel_rfl
 have e75 : Try.prog.cellsOf 75 = 2 := by kernel_rfl
 have u75 : Try.prog.underlying 75 = some (.array 2 5) := by kernel_rfl
 have u5 : Try.prog.underlying 5 = some (.int .u8) := by kernel_rfl
 obtain ⟨fuel, hf⟩ := h
 rcases Go.Deep.open_slice u73 hf with ⟨hcs, _⟩ | ⟨a, len, cap, m, n3, D, Pl, hcs, _, hl, hm, hmm, _, hel⟩
 · simp [Value.cells] at hcs
   obtain ⟨rfl, rfl, rfl⟩ := hcs
   exact ⟨none, 0, [], rfl, Nat.le_refl _, Kd.C_nil _ _, fun x hx => by simp at hx⟩
 · simp [Value.cells] at hcs
   obtain ⟨rfl, rfl, rfl⟩ := hcs
   obtain ⟨l, rfl, hC, hw⟩ := rows75 (W := W) (a := a) hl hm (fun i hi => by
    obtain ⟨cs', k1, k2⟩ := hel i (by rw [hmm]; simp; omega)
    rw [e75] at k1
    obtain ⟨_, kl, kc⟩ := World.cells?_some k1
    match cs', kl with
    | [x0, x1], _ =>
     obtain ⟨y0, y1, n4, t0, t1⟩ := trod_array2' u75 e5 k2
     obtain ⟨b0, r0, _, v0⟩ := DataW.trod_int u5 t0
     obtain ⟨b1, r1, _, v1⟩ := DataW.trod_int u5 t1
     simp only [List.cons.injEq, and_true] at r0 r1
     subst r0 r1
     refine ⟨⟨b0, b1⟩, ⟨wf_byte v0, wf_byte v1⟩, ?_, ?_⟩
     · have := kc 0 (by omega)
       rw [Addr.add_add, Nat.add_zero] at this
       exact this
     · have := kc 1 (by omega)
       rw [Addr.add_add] at this
       exact this)
   exact ⟨some a, _, l, rfl, hl, hC, hw⟩
set_option maxRecDepth 100000 in
theorem open_bytes1 {H : Type} {enc : TypeId × Value → H} {W : World} {r : Reach} {b0 : Nat} {v : Value} {d : DataW H} {p : List MemPlace}
    (hv : Value.okWide Try.prog W r b0 72 v) (h : DataW.Trod enc Try.prog W 0 (fun _ => true) true 72 v d p) :
    ∃ (A : Option Addr) (c : Nat) (l : List Int), v = .slice A l.length c ∧ l.length ≤ c ∧ Kd.C (Kd.int .u8) W A l.length l ∧ ∀ n ∈ l, isByte n := by
  have u72 : Try.prog.underlying 72 = some (.slice 5) := by kernel_rfl
  have u5 : Try.prog.underlying 5 = some (.int .u8) := by kernel_rfl
  obtain ⟨A, len, cap, rfl⟩ := okWide_slice u72 hv
  obtain ⟨fuel, hf⟩ := h
  have key : ∃ zs : List Int, (A = none ∧ len = 0 ∧ cap = 0 ∧ zs = []) ∨ ∃ x, A = some x ∧ len ≤ cap ∧ cap ≤ maxLen ∧ zs.length = cap ∧ (∀ i, i < zs.length → W.cell? (x.add i) = some (.int .u8 (zs.getD i 0))) ∧ ∀ n ∈ zs, (Lit.int .u8 n).wf = true := by
    rcases open_ints u72 u5 (by kernel_rfl) hf with ⟨hcs, _⟩ | ⟨x, l, c, zs, hcs, _, hl, hm, hz, _, hcell, hwz⟩
    · simp [Value.cells] at hcs
      obtain ⟨rfl, rfl, rfl⟩ := hcs
      exact ⟨[], .inl ⟨rfl, rfl, rfl, rfl⟩⟩
    · simp [Value.cells] at hcs
      obtain ⟨rfl, rfl, rfl⟩ := hcs
      exact ⟨zs, .inr ⟨_, rfl, hl, hm, by simpa using hz, hcell, hwz⟩⟩
  obtain ⟨zs, w⟩ := key
  obtain ⟨l, rfl, hr, hm, hw, hc⟩ := ReadsInt.ofRowC w
  exact ⟨A, cap, l, rfl, hc, Kd.C_of_reads (d := (0 : Int)) (h1 := fun _ => rfl) hr, fun n hn => wf_byte (hw n hn)⟩

end Go.Proofs.Ytkocigldchiifaa.H

/- slices.Collect of the moves from a pair. -/
namespace Go.Proofs.Ytkocigldchiifaa.H
open Go.RowKit Go.Proofs.YtkocigldchiifaaW.PrintWords Go.Proofs.YtkocigldchiifaaW.PrintLast Go.Proofs.YtkocigldchiifaaW.PrintMore
open Go.Shelf Go.Proofs.Ytkocigldchiifaa.QA
attribute [local go_sem] Oper.semAt_some
set_option linter.unusedVariables false
set_option linter.unusedSimpArgs false

theorem cellsP_oneC (xs : List S25) : ∀ u ∈ cellsP xs, u.oneCell' = true := by
 intro u hu
 obtain ⟨x, _, hx⟩ := List.mem_flatMap.1 hu
 simp only [List.mem_cons, List.not_mem_nil, or_false] at hx
 rcases hx with rfl | rfl <;> rfl
/-- A slice that is boxed, and its row. -/
structure Cs (w W : World) (v : Value) (xs : List S25) : Prop where
 below : Below w.heap.size w W
 box : Boxed W w.heap.size 38 v
 row : W.ownsRow w.heap.size 25 2 v xs.length (cellsP xs)
section
variable {w W W' : World} {v : Value} {xs : List S25}
theorem own_keptP {base : Nat} (h : W.ownsRow base 25 2 v xs.length (cellsP xs)) (hk : ∀ (j : Nat) (cur : Array Value), v.ownBlock = some j → W.heap[j]? = some (.cells cur 25 (0, 0)) → W'.heap[j]? = some (.cells cur 25 (0, 0))) : W'.ownsRow base 25 2 v xs.length (cellsP xs) := by
 obtain ⟨h1, h2⟩ := h
 refine ⟨h1, ?_⟩
 rcases h2 with h2 | ⟨g, cap, cur, rfl, h4, h5, h6⟩
 · exact .inl h2
 · exact .inr ⟨g, cap, cur, rfl, h4, hk g cur rfl h5, h6⟩
theorem Cs.quiet (h : Cs w W v xs) (hb : Below W.heap.size W W') : Cs w W' v xs :=
 ⟨h.below.trans (hb.mono h.below.size), blk_below2 hb h.box, own_keptP h.row fun j cur _ hj => blk_below2 hb hj⟩
theorem Cs.lt (h : Cs w W v xs) : w.heap.size < W.heap.size := h.box.lt
theorem Cs.grown (h : Cs w W v xs) {row : Option Nat} (hg : W.grownBy W' row) (hr : ∀ r, row = some r → w.heap.size ≤ r ∧ ∃ o : Obj, W.heap[r]? = some o ∧ o.isCells = false) : Cs w W' v xs := by
 have hk : ∀ (j : Nat) (o : Obj), W.heap[j]? = some o → o.isCells = true → W'.heap[j]? = some o := fun j o ho hc => (hg.block j (blk_lt2 ho) (fun e => by
  obtain ⟨h1, o', h2, h3⟩ := hr j e.symm
  rw [ho] at h2
  cases h2
  rw [hc] at h3; cases h3)).trans ho
 exact ⟨h.below.grown hg h.below.size (fun k e => (hr k e).1), hk _ _ h.box rfl, own_keptP h.row fun j cur _ hj => hk _ _ hj rfl⟩
end
/-- Pairs appended, in a loop's body. -/
theorem wpListIn_append_at {F : Fence} {n : Nat} (w : World) {ops : Array Oper} {rest : List Oper} {o : Oper} {a : Act} {Q : Exit → Act → World → Prop}
  (hg : o.guard = none) (s x : Operand) (hop : o.op = Op.call { callee := Callee.builtin Builtin.append, args := #[s, x], argTypes := #[38, 38] })
  (base : Nat) (v : Value) (xs ys : List S25) (hs : a.eval s = v) (hown : w.ownsRow base 25 2 v xs.length (cellsP xs)) (ad : Addr) (m c : Nat) (hx : a.eval x = .slice (some ad) m c) (hm : m = ys.length)
  (hc : ∀ j u, (cellsP ys)[j]? = some u → w.cell? (ad.add j) = some u) (hl : xs.length + m ≤ 1000000) (hb : base ≤ w.heap.size)
  (hK : ∀ v' w', w'.ownsRow base 25 2 v' (xs ++ ys).length (cellsP (xs ++ ys)) → w.grownBy w' v.ownBlock → (v'.ownBlock = v.ownBlock ∨ v'.ownBlock = some w.heap.size) → wpListIn F n Try.prog ops Q rest (a.put o.dst v') w') :
  wpListIn F n Try.prog ops Q (o :: rest) a w := by
 obtain ⟨i0, hi, hz0, hz1, hz2⟩ := info_parts info25
 have hM : maxLen = 9223372036854775807 := rfl
 refine wpListIn_plain hg fun K hK' => ?_
 obtain ⟨v', w', hrun, r1, r2, _, r3⟩ := run_append_own_at (P := Try.prog) w base 38 o.type 25 i0 (.agg #[(.int .i64 0), (.int .i64 0)]) 2 16 Try.underlying38 hi hz0 hz1 hz2 rfl (by decide) v xs.length (cellsP xs) hown ad m c (cellsP ys) (by rw [cellsP_len, hm]) hc (cellsP_oneC ys) (by omega) (by omega) hb
 unfold Oper.wpIn
 refine ⟨?_, ?_⟩
 · simp [Oper.about, hop, resolve, Target.leads, Sem.run_pure]
 · rw [Oper.semAt_plain F _ _ (by rw [hop]; intro c hc'; cases hc')]
   simp [execOp, hop, resolve, invoke, builtin, hs, hx, hrun, Result.andThen]
   refine hK' _ _ (hK v' w' ?_ r2 r3)
   rw [List.length_append, ← hm, show cellsP (xs ++ ys) = cellsP xs ++ cellsP ys by simp [cellsP]]
   exact r1
theorem own_succ {W : World} {base : Nat} {v : Value} {xs : List S25} {x : S25} (h : W.ownsRow base 25 2 v (xs ++ [x]).length (cellsP (xs ++ [x]))) : ∃ g cap, v = .slice (some ⟨g, 0, none⟩) (xs ++ [x]).length cap := by
 rcases h.2 with ⟨_, h0⟩ | ⟨g, cap, _, rfl, _⟩
 · simp at h0
 · exact ⟨g, cap, rfl⟩
theorem repsP (w : World) (base : Nat) (ok : Nat → Prop) (xs : List S25) : Reps (k25.M w base ok) 2 xs (cellsP xs) := by
 have h : ∀ (ys zs : List S25), Reps (k25.M w base ok) 2 ys (cellsP ys) → Reps (k25.M w base ok) 2 (ys ++ zs) (cellsP (ys ++ zs)) := fun ys zs => by
  induction zs generalizing ys with
  | nil => intro h; simpa using h
  | cons z zs ih =>
   intro h
   have := ih (ys ++ [z]) (by
    have h2 := h.snoc (p := z) (c := [.int .i64 z.f0, .int .i64 z.f1]) (k25_mkM w base ok z) rfl
    simpa [cellsP] using h2)
   simpa using this
 simpa using h [] xs (Reps.none _ _)
set_option maxHeartbeats 4000000 in
set_option maxRecDepth 100000 in
/-- slices.AppendSeq(nil, moves). -/
theorem appendSeq_calls (g Bp Bt : Nat) (a b : List S59) (i k : Int) (w : World) (hp0 : w.cell? ⟨Bp, 0, none⟩ = some (.int .i64 i)) (hp1 : w.cell? ⟨Bp, 1, none⟩ = some (.int .i64 k)) (htb : w.heap[Bt]? = some (.cells #[.pointer (some ⟨g, 0, none⟩)] 80 (0, 0)))
  (hT : Tb w g a b) (hi : 0 ≤ i ∧ i ≤ 1000) (hk : 0 ≤ k ∧ k ≤ 1000) :
  Calls Try.prog 79 #[.slice none 0 0, .func (.func 72) #[] #[.pointer (some ⟨Bp, 0, none⟩), .pointer (some ⟨Bt, 0, none⟩)]] w fun e w' => ∃ v, e = .returned v ∧ w'.ownsRow w.heap.size 25 2 v (movesOf a b i k).length (cellsP (movesOf a b i k)) ∧ Below w.heap.size w w' := by
 have hu25 := Try.underlying25
 obtain ⟨i0, hi25, hz0, hz1, hz2⟩ := info_parts info25
 refine calls_of_wp_marks Try.func79 rfl ?_
 simp only [Try.ntmps79, List.size_toArray, List.length_cons, List.length_nil, Nat.reduceAdd, Nat.reduceSub, Array.replicate_succ, Array.replicate_zero, List.push_toArray, List.append_toArray, List.nil_append, List.cons_append]
 go_wp2_with fail
 have hb0 := below_alloc (Below.refl w.heap.size w) (.cells #[.slice none 0 0] 38)
 have hS : Cs w (w.alloc (.cells #[.slice none 0 0] 38)) (.slice none 0 0) [] := ⟨hb0, blk_new w _, ⟨rfl, .inl ⟨rfl, rfl⟩⟩⟩
 have hltp : Bp < w.heap.size := by have := World.block_lt_of_cell? _ _ hp0; exact this
 have hltt : Bt < w.heap.size := blk_lt2 htb
 have q0 := (hb0.cell (p := ⟨Bp, 0, none⟩) hltp).trans hp0
 have q1 := (hb0.cell (p := ⟨Bp, 1, none⟩) hltp).trans hp1
 have qt := blk_below2 hb0 htb
 have hT1 := hT.below hb0
 have hsl : (w.alloc (.cells #[.slice none 0 0] 38)).heap.size = w.heap.size + 1 := by simp
 generalize w.alloc (.cells #[.slice none 0 0] 38) = wl at hS q0 q1 qt hT1 hsl ⊢
 have HS := Aside0.mk hS
 have HT := Aside0.mk hT
 clear hb0 hp0 hp1 htb
 refine (wpIn_wide (n := 3)).1 ?_
 refine wpIn_rangeFunc_ownH rfl (by omega) (gf := 72) (lb := #[.pointer (some ⟨Bp, 0, none⟩), .pointer (some ⟨Bt, 0, none⟩)]) rfl trivial (enters_of Try.func72 (by kernel_rfl) rfl)
  (moves_stops _ (by omega) Bp Bt w.heap.size g w.heap.size a b i k wl q0 q1 qt (fun W' hb => HT.out.below (HS.out.below.trans hb)) (by omega) (by omega) ((ptr_boxed HS.out.box).trans rfl) hi hk) KpM.trans' (KpM.putObj (by omega) (by omega)) (Below.refl _ _) (fun _ => rfl)
  (fun pre W => ∃ v : Value, Cs w W v (pre.map (·.1)))
  (fun _ _ _ => False)
  (fun pre X Y row hs hg hr => by
   obtain ⟨v, h1⟩ := hs
   exact ⟨v, h1.grown hg (fun r e => by obtain ⟨h3, h4⟩ := hr r e; exact ⟨by omega, h4⟩)⟩)
  (fun _ _ _ _ _ hs _ _ => hs)
  ⟨.slice none 0 0, HS.out⟩
  (fun x a' W => ∃ (u : Nat → Value) (Bq : Nat), a' = { tmps := #[u 0, u 1, .pointer (some ⟨w.heap.size, 0, none⟩), u 3, u 4, .pointer (some ⟨Bq, 0, none⟩), u 6, u 7, u 8, u 9, u 10, u 11, u 12], defers := [] } ∧ W.heap[Bq]? = some (.cells #[.int .i64 x.1.f0, .int .i64 x.1.f1] 25 (0, 0)))
  (fun x a' _ X Y row hs hg hr => by
   obtain ⟨u, Bq, h1, h2⟩ := hs
   exact ⟨u, Bq, h1, (hg.block Bq (blk_lt2 h2) (fun e => by obtain ⟨_, o, ho, hc⟩ := hr Bq e.symm; rw [h2] at ho; cases ho; cases hc)).trans h2⟩) ?assign ?body ?done ?stop
 case stop =>
  rintro D c pre W _ _ h _
  exact h.elim
 case assign =>
  intro l pre x W K hI hK
  gi_wp2
  obtain ⟨v, h1⟩ := hI
  have hb := below_alloc (Below.refl W.heap.size W) (Obj.cells #[Value.int IntKind.i64 x.1.f0, Value.int IntKind.i64 x.1.f1] 25)
  refine hK _ _ ⟨hb.size, fun k o _ hk _ => blk_below2 hb hk⟩ (KpM.quiet hb (by have := h1.lt; omega) h1.lt) ⟨v, h1.quiet hb⟩ ⟨fun k => ([_, _, undef, _, _, undef, _, _, _, _, _, _, _] : List Value).getD k undef, _, rfl, blk_new _ _⟩
 case body =>
  rintro l pre x a' W hl _ hI ⟨u, Bq, rfl, hq⟩ hlt
  obtain ⟨v, hC⟩ := hI
  have c2 := hC.box.cell
  have c50 : W.cell? ⟨Bq, 0, none⟩ = some (.int .i64 x.1.f0) := (blk_cell hq 0).trans rfl
  have c51 : W.cell? ⟨Bq, 1, none⟩ = some (.int .i64 x.1.f1) := (blk_cell hq 1).trans rfl
  have hb := below_alloc (Below.refl W.heap.size W) (Obj.cells #[Value.int IntKind.i64 x.1.f0, Value.int IntKind.i64 x.1.f1] 25)
  have hC2 := hC.quiet hb
  have HC := Aside0.mk hC
  have HL := Aside0.mk hlt
  clear hC hq
  gi_wp2_with (gi_at_builtin; refine Aside0.out ?_)
  refine ⟨?_⟩
  refine wpListIn_append_at _ rfl _ _ rfl w.heap.size v (pre.map (·.1)) [x.1] rfl hC2.row ⟨W.heap.size, 0, none⟩ 1 1 rfl rfl (fun j u hu => by simpa using World.news_of_block (cs := #[Value.int IntKind.i64 x.1.f0, Value.int IntKind.i64 x.1.f1]) (t := 25) (fr := (0, 0)) (heap_alloc_new W (Obj.cells #[Value.int IntKind.i64 x.1.f0, Value.int IntKind.i64 x.1.f1] 25)) j u (by simpa [cellsP] using hu)) (by have := HL.out; rw [List.length_map]; omega) (by have := hC2.lt; omega) ?_
  intro v' w' r1 r2 r3
  obtain ⟨g', cap', rfl⟩ := own_succ r1
  obtain ⟨L, hL⟩ : ∃ L, (pre.map (·.1) ++ [x.1]).length = L := ⟨_, rfl⟩
  rw [hL] at r1 r3 ⊢
  have HLL := Aside0.mk hL
  clear hL
  obtain ⟨b1, b2, b3, b4, b5⟩ := Boxed.appended HC.out.box (by decide) HC.out.row HC.out.below.size (Nat.le_refl _) r1 r2
  have d1 := b1.cell
  have d2 := b1.frozen
  have HBB := Aside0.mk (And.intro b2 (And.intro b3 (And.intro b4 b5)))
  have HR := Aside0.mk (And.intro r2 r3)
  clear b1 b2 b3 b4 b5 r1 r2 r3 hC2 hb
  have hpt : ∀ y : Nat, ptrAt W w.heap.size = some y ↔ v.ownBlock = some y := fun y => by rw [ptr_boxed HC.out.box]
  gi_wp2
  have hpre : (pre ++ [x]).map (·.1) = pre.map (·.1) ++ [x.1] := by simp
  refine ⟨HBB.out.2.2.1.from _, ⟨HBB.out.2.2.2, fun cs t fz hg => (HBB.out.2.2.2.block Bt hltt).trans hg, fun y cs hg hp => ?_, fun y hy => ?_⟩, _, ⟨HC.out.below.trans HBB.out.2.2.2, HBB.out.1, by rw [hpre, HLL.out]; exact HBB.out.2.1⟩⟩
  · have hne : y ≠ w.heap.size := fun e => by
     subst e
     have := HC.out.box.symm.trans hg
     cases this
    refine (Below.heap_setCell _ _ _ _ hne).trans ((HR.out.1.block y (by have := blk_lt2 hg; simp; omega) (fun e => hp ((hpt y).2 e.symm))).trans ((Below.heap_alloc W _ y (blk_lt2 hg)).trans hg))
  · rw [ptr_boxed HBB.out.1] at hy
    rcases HR.out.2 with h | h
    · exact .inl ((hpt y).2 (h.symm.trans hy))
    · refine .inr ?_
      have := Option.some.inj (h.symm.trans hy)
      simp at this
      omega
 case done =>
  rintro D ys W hD hys hI hDf
  obtain ⟨v, hC⟩ := hI
  have c2 := hC.box.cell
  rw [hys] at hC
  have HC := Aside0.mk hC
  have HD := Aside0.mk hDf
  clear hC
  dsimp only
  go_wp2
  refine leaves_marks (n₀ := w.heap.size) [{ target := .collected D, args := #[] }] W ⟨⟨D, rfl, by omega, HD.out, fun d' hd => by cases hd⟩, trivial⟩ (fun W' hb hk => ⟨_, results_tmp rfl _ _ _, _, rfl, own_keptP HC.out.row (fun j cur _ hj => hk _ _ hj (fun c e => by cases e)), HC.out.below.trans hb⟩)
/-- slices.Collect(moves). -/
theorem collect_calls (g Bp Bt : Nat) (a b : List S59) (i k : Int) (w : World) (hp0 : w.cell? ⟨Bp, 0, none⟩ = some (.int .i64 i)) (hp1 : w.cell? ⟨Bp, 1, none⟩ = some (.int .i64 k)) (htb : w.heap[Bt]? = some (.cells #[.pointer (some ⟨g, 0, none⟩)] 80 (0, 0)))
  (hT : Tb w g a b) (hi : 0 ≤ i ∧ i ≤ 1000) (hk : 0 ≤ k ∧ k ≤ 1000) :
  Calls Try.prog 67 #[.func (.func 72) #[] #[.pointer (some ⟨Bp, 0, none⟩), .pointer (some ⟨Bt, 0, none⟩)]] w fun e w' => ∃ A c, e = .returned (.slice A (movesOf a b i k).length c) ∧ (movesOf a b i k).length ≤ c ∧ Kd.C k25 w' A (movesOf a b i k).length (movesOf a b i k) ∧ Below w.heap.size w w' := by
 have HP := Aside0.mk (And.intro hp0 (And.intro hp1 (And.intro htb hT)))
 clear hp0 hp1 htb hT
 go_enter Try.func67, Try.ntmps67
 go_wp2_with fail
 refine (appendSeq_calls g Bp Bt a b i k _ HP.out.1 HP.out.2.1 HP.out.2.2.1 HP.out.2.2.2 hi hk).mono ?_
 rintro e w1 ⟨v, rfl, hO, hb⟩
 have hR : Kd.R k25 25 w1 w.heap.size (fun _ => True) v (movesOf a b i k) := ⟨fun _ _ => trivial, cellsP (movesOf a b i k), hO, repsP _ _ _ _⟩
 obtain ⟨A, c, rfl, hc, hC⟩ := Kd.R_reads hR
 have HC := Aside0.mk (And.intro hc (And.intro hC hb))
 clear hO hR hc hC hb
 go_wp2
 go_ret
 exact ⟨A, c, rfl, HC.out⟩

end Go.Proofs.Ytkocigldchiifaa.H

/- align.Height. -/
namespace Go.Proofs.Ytkocigldchiifaa.H
open Go.RowKit Go.Proofs.YtkocigldchiifaaW.PrintWords Go.Proofs.YtkocigldchiifaaW.PrintLast Go.Proofs.YtkocigldchiifaaW.PrintMore
open Go.Shelf Go.Proofs.Ytkocigldchiifaa.QA
attribute [local go_sem] Oper.semAt_some
attribute [local go_sem high] eqA25
set_option linter.unusedVariables false
set_option linter.unusedSimpArgs false



def hgt14_T : Bool × List (List Nat × List Nat) := (true, [([], []), ([0], [0]), ([1], [1]), ([2], [2]), ([2], [2]), ([2], [2]), ([5, 2], [2, 5]), ([4, 6, 2], [2, 4, 6]), ([7, 2], [2, 7]), ([3, 8, 2, 2], [2, 3, 8]), ([9, 9, 2], [2, 9]), ([2], [2]), ([10, 11, 10, 2], [2, 10, 11]), ([12, 2], [2, 12]), ([2, 13], [2, 13]), ([14, 12], [14])])
def hgt14_B : List Nat := [0, 1, 3, 7, 7, 7, 39, 119, 247, 511, 1023, 7, 4095, 8191, 16383, 32767]
theorem hgt14_tab : rtab .any (opsOf Try.f35 14) = hgt14_T := by kernel_rfl
theorem hgt14_bits : waitsOk hgt14_T.2 hgt14_B = true := by kernel_rfl
def hgt18_T : Bool × List (List Nat × List Nat) := (true, [([], []), ([], []), ([1], [1]), ([2], [2]), ([0, 3], [0, 3]), ([4], [4]), ([], []), ([6], [6]), ([7], [7]), ([8], [8]), ([5, 9], [5, 9])])
def hgt18_B : List Nat := [0, 0, 2, 6, 15, 31, 0, 64, 192, 448, 1023]
theorem hgt18_tab : rtab .any (opsOf Try.f35 18) = hgt18_T := by kernel_rfl
theorem hgt18_bits : waitsOk hgt18_T.2 hgt18_B = true := by kernel_rfl

theorem max2_mxH (k k' : IntKind) (x y : Int) : Builtin.max2 (.int k x) (.int k' y) = pure (.int k (mx x y)) := max2_int k k' x y
/-- A move. -/
def stepB (q p : S25) : Bool := isIn 0 (p.f0 - q.f0) 1 && (isIn 0 (p.f1 - q.f1) 1 && !(p.f0 - q.f0 + (p.f1 - q.f1) == 0))
/-- What is wrong at a pair of a list: 0 if nothing is. -/
def htAt (a b : List S59) (l : List S25) (i : Nat) : Int :=
 if hasP a b (rd_T25 l i).f0 (rd_T25 l i).f1 = false then 8 else if i = 0 then (if (rd_T25 l i).f0 = 0 ∧ (rd_T25 l i).f1 = 0 then 0 else 7) else if stepB (rd_T25 l ((i - 1 : Nat) : Int)) (rd_T25 l i) = false then 7 else 0
def htFrom (a b : List S59) (l : List S25) : Nat → Nat → Int → Int × Int
 | 0, _, ht => if (rd_T25 l ((l.length - 1 : Nat) : Int)).f0 = (a.length : Int) - 1 ∧ (rd_T25 l ((l.length - 1 : Nat) : Int)).f1 = (b.length : Int) - 1 then (ht, 0) else (0, 13)
 | n + 1, i, ht => if htAt a b l i = 0 then htFrom a b l n (i + 1) (mx ht (farD (rd_T59 a (rd_T25 l i).f0) (rd_T59 b (rd_T25 l i).f1))) else (0, htAt a b l i)
def htF (a b : List S59) (l : List S25) : Int × Int := if l.length = 0 then (0, 4) else htFrom a b l l.length 0 0
def align_Height.f (l0 l1 : List S59) (l2 : List S25) : Option (Int × Int) := (align_Check.f l0 l1).bind fun e => some (if e = 0 then htF l0 l1 l2 else (0, e))
theorem contains_f {a b : List S59} (q p : S25) (hq : hasP a b q.f0 q.f1 = true) (hp : hasP a b p.f0 p.f1 = true) : align_Pair_66.f 10 (movesOf a b q.f0 q.f1) p.f0 p.f1 = some (stepB q p) := by
 obtain ⟨q1, q2⟩ := (hasP_iff a b _ _).1 hq
 obtain ⟨p1, p2⟩ := (hasP_iff a b _ _).1 hp
 obtain ⟨q0, qb⟩ := q
 obtain ⟨p0, pb⟩ := p
 dsimp only at q1 q2 p1 p2 ⊢
 have hw : ∀ i : Nat, i ≤ 10 → wrap64 ((i : Int) + 1) = ((i + 1 : Nat) : Int) := fun i hi => by rw [w64' _ (by omega) (by omega)]; rfl
 have hgo : ∀ (l : List S25) (n j k : Nat), l.length - j = n → l.length ≤ 3 → j ≤ l.length → n + 1 ≤ k → (align_Pair_78.l0 k l (l.length : Int) (j : Int) p0 pb).bind (fun t => some (decide (t ≥ 0))) = some ((l.drop j).any fun x => p0 == x.f0 && pb == x.f1) := fun l n => by
  induction n with
  | zero =>
   intro j k h1 h2 h3 h4
   obtain ⟨k, rfl⟩ : ∃ k', k = k' + 1 := ⟨k - 1, by omega⟩
   rw [align_Pair_78.l0, if_neg (by omega), List.drop_eq_nil_of_le (by omega)]
   rfl
  | succ n ih =>
   intro j k h1 h2 h3 h4
   obtain ⟨k, rfl⟩ : ∃ k', k = k' + 1 := ⟨k - 1, by omega⟩
   have hj : j < l.length := by omega
   have hd : l.drop j = rd_T25 l j :: l.drop (j + 1) := by
    rw [List.drop_eq_getElem_cons hj]
    unfold rd_T25
    rw [Int.toNat_natCast, List.getD_eq_getElem?_getD, List.getElem?_eq_getElem hj]
    rfl
   rw [align_Pair_78.l0, if_pos (by omega), if_pos (by omega), if_pos (by omega), hd, List.any_cons, hw j (by omega)]
   by_cases c : (p0 == (rd_T25 l j).f0 && (pb == (rd_T25 l j).f1)) = true
   · rw [if_pos c, c]
     simp
   · rw [if_neg c]
     have c' : (p0 == (rd_T25 l j).f0 && (pb == (rd_T25 l j).f1)) = false := by simpa using c
     rw [c', ih (j + 1) k (by omega) h2 (by omega) (by omega)]
     simp
 have hlen : (movesOf a b q0 qb).length ≤ 3 := (moves_len a b q0 qb 3).1
 unfold align_Pair_66.f align_Pair_78.f
 refine (hgo (movesOf a b q0 qb) _ 0 10 rfl hlen (Nat.zero_le _) (by omega)).trans ?_
 congr 1
 rw [List.drop_zero, Bool.eq_iff_iff, List.any_eq_true]
 unfold stepB isIn
 constructor
 · rintro ⟨x, hx, hxe⟩
   have := (moves_mem hx).2
   simp only [Bool.and_eq_true, beq_iff_eq] at hxe
   rcases this with rfl | rfl | rfl <;> (simp only at hxe; simp; omega)
 · intro hs
   simp only [Bool.and_eq_true, decide_eq_true_eq, Bool.not_eq_true', beq_eq_false_iff_ne] at hs
   refine ⟨⟨p0, pb⟩, ?_, by simp⟩
   rw [moves_eq a b q0 qb q1 q2]
   have h3 : (p0 = q0 + 1 ∧ pb = qb + 1) ∨ (p0 = q0 + 1 ∧ pb = qb) ∨ (p0 = q0 ∧ pb = qb + 1) := by omega
   rcases h3 with ⟨rfl, rfl⟩ | ⟨rfl, rfl⟩ | ⟨rfl, rfl⟩
   · rw [if_pos (by omega)]; simp
   · simp only [List.mem_append]
     refine .inr (.inl ?_)
     rw [if_pos (by omega)]; simp
   · simp only [List.mem_append]
     refine .inr (.inr ?_)
     rw [if_pos (by omega)]; simp
/-- What holds at the head of the loop. -/
structure HtS (a b : List S59) (l : List S25) (i : Nat) (ht : Int) (w wr : World) : Prop where
 below : Below w.heap.size w wr
 eq : htFrom a b l l.length 0 0 = htFrom a b l (l.length - i) i ht
 has : ∀ j : Nat, j < i → hasP a b (rd_T25 l j).f0 (rd_T25 l j).f1 = true
theorem HtS.err {a b : List S59} {l : List S25} {i : Nat} {ht : Int} {w wr : World} (hs : HtS a b l i ht w wr) (hlt : i < l.length) {x : Int} (hx : htAt a b l i = x) (hne : x ≠ 0) : htFrom a b l l.length 0 0 = (0, x) := by
 rw [hs.eq, show l.length - i = (l.length - (i + 1)) + 1 by omega, htFrom, hx, if_neg hne]
theorem HtS.next {a b : List S59} {l : List S25} {i : Nat} {ht : Int} {w wr w' : World} (hs : HtS a b l i ht w wr) (hlt : i < l.length) (hx : htAt a b l i = 0) (hp : hasP a b (rd_T25 l i).f0 (rd_T25 l i).f1 = true) (hb : Below wr.heap.size wr w') : HtS a b l (i + 1) (mx ht (farD (rd_T59 a (rd_T25 l i).f0) (rd_T59 b (rd_T25 l i).f1))) w w' := by
 refine ⟨hs.below.trans (hb.mono hs.below.size), ?_, fun j hj => ?_⟩
 · rw [hs.eq, show l.length - i = (l.length - (i + 1)) + 1 by omega, htFrom, hx, if_pos rfl]
 · by_cases h1 : j = i
   · rw [h1]; exact hp
   · exact hs.has j (by omega)
section
attribute [local go_sem] max2_mxH max_two
set_option maxRecDepth 100000 in
set_option maxHeartbeats 4000000 in
theorem align_Height.calls (A0 : Option Addr) (c0 : Nat) (l0 : List S59) (A1 : Option Addr) (c1 : Nat) (l1 : List S59) (A3 : Option Addr) (c3 : Nat) (l3 : List S25) (r1 r2 : Int) (w : World) (hr0 : Kd.C k59 w A0 l0.length l0) (hc0 : l0.length ≤ c0) (hr1 : Kd.C k59 w A1 l1.length l1) (hc1 : l1.length ≤ c1) (hr3 : Kd.C k25 w A3 l3.length l3) (hc3 : l3.length ≤ c3) (hl : l3.length ≤ 1000000) (h : align_Height.f l0 l1 l3 = some (r1, r2)) :
  Calls Try.prog 35 #[.slice A0 l0.length c0, .slice A1 l1.length c1, .slice A3 l3.length c3] w fun e w' => e = .returned (.tuple #[.int .i64 r1, .int .i64 r2]) ∧ Below w.heap.size w w' := by
 have hu25 := Try.underlying25
 unfold align_Height.f at h
 obtain ⟨e, he, h⟩ := Option.bind_eq_some_iff.1 h
 have HR0 := Aside0.mk hr0
 have HR1 := Aside0.mk hr1
 have HR3 := Aside0.mk hr3
 have HE := Aside0.mk he
 have HC := Aside0.mk (And.intro hc0 (And.intro hc1 hc3))
 have HL := Aside0.mk hl
 have h1 := Option.some.inj h
 clear h he hr0 hr1 hr3 hc0 hc1 hc3 hl
 by_cases h0 : e = 0
 · subst h0
   rw [if_pos rfl] at h1
   have HO := Aside0.mk (rolls_of HE.out)
   by_cases hn : l3.length = 0
   · unfold htF at h1
     rw [if_pos hn] at h1
     obtain ⟨rfl, rfl⟩ := Prod.mk.inj h1
     rw [hn]
     go_enter Try.func35, Try.ntmps35
     go_wp2_with fail
     refine (newTable_ok A0 c0 l0 A1 c1 l1 _ HR0.out HC.out.1 HR1.out HC.out.2.1 HE.out).mono ?_
     rintro e w1 ⟨g, rfl, hT, _, hb⟩
     have HB := Aside0.mk hb
     clear hT hb hn
     go_wp2
     go_ret2
     exact ⟨rfl, HB.out⟩
   · have hnb : ((l3.length : Int) == 0) = false := beq_eq_false_iff_ne.mpr (by omega)
     have hnp : 0 < l3.length := Nat.pos_of_ne_zero hn
     unfold htF at h1
     rw [if_neg hn] at h1
     have HV := Aside0.mk h1
     clear h1
     go_enter Try.func35, Try.ntmps35
     go_wp2_with fail
     refine (newTable_ok A0 c0 l0 A1 c1 l1 _ HR0.out HC.out.1 HR1.out HC.out.2.1 HE.out).mono ?_
     rintro e w1 ⟨g, rfl, hT, _, hb⟩
     have HT := Aside0.mk hT
     have HB := Aside0.mk hb
     clear hT hb
     go_wp2
     go_loopw [10, 29] (fun s10 s29 wr => ∃ (i : Nat) (ht : Int), i ≤ l3.length ∧ s10 = .int .i64 ht ∧ s29 = .int .i64 i ∧ Aside0 (HtS l0 l1 l3 i ht w1 wr)) (fun _ s29 _ => l3.length - (intOf s29).toNat)
     case atStart => exact ⟨0, 0, by omega, rfl, rfl, ⟨Below.refl _ _, by simp, fun j hj => absurd hj (Nat.not_lt_zero j)⟩⟩
     case round =>
      obtain ⟨i, ht, hi, rfl, rfl, HS⟩ := hrel
      have HTW := Aside0.mk (HT.out.below HS.out.below)
      by_cases hlt : i < l3.length
      · have hdec : decide ((i : Int) < (l3.length : Int)) = true := decide_eq_true (by omega)
        have hC := Kd.C_below (Kd.C_below HR3.out HB.out) (HS.out.below)
        obtain ⟨ad, rfl, x0, x1⟩ := at_T25 hC i (by omega) (by omega)
        have HCC := Aside0.mk hC
        clear hC
        obtain ⟨p, hp⟩ : ∃ p, rd_T25 l3 i = p := ⟨_, rfl⟩
        rw [hp, Int.toNat_natCast] at x0 x1
        have HP := Aside0.mk hp
        have hbb := below_alloc (Below.refl wr.heap.size wr) (.cells #[.int .i64 p.f0, .int .i64 p.f1] 25)
        have hbn := blk_new wr (.cells #[.int .i64 p.f0, .int .i64 p.f1] 25)
        have HBB := Aside0.mk (And.intro hbb hbn)
        have hcall := has_calls g l0 l1 p.f0 p.f1 _ (HTW.out.below hbb)
        generalize hz : hasP l0 l1 p.f0 p.f1 = z at hcall
        have HCALL := Aside0.mk hcall
        have HZ := Aside0.mk hz
        clear hp hbb hbn hcall hz
        cases z with
        | false =>
         go_wp2_with (go_at_call 46; refine HCALL.out.mono ?_; rintro e w2 ⟨rfl, hb2⟩; have HB2 := Aside0.mk hb2; clear hb2)
         go_ret2
         have h8 : htAt l0 l1 l3 i = 8 := by unfold htAt; rw [HP.out, if_pos HZ.out]
         have hv := HV.out
         rw [HS.out.err hlt h8 (by decide)] at hv
         obtain ⟨rfl, rfl⟩ := Prod.mk.inj hv
         exact ⟨rfl, HB.out.trans ((HS.out.below.trans ((below_then HBB.out.1 HBB.out.1.size HB2.out).mono HS.out.below.size)).mono HB.out.size)⟩
        | true =>
         have hb13 := HBB.out.1
         by_cases hi0 : 0 < i
         · have hgt : decide ((i : Int) > 0) = true := decide_eq_true (by omega)
           have hgt2 : decide ((0 : Int) < i) = true := decide_eq_true (by omega)
           have hz1 : ¬ ((i : Int) = 0) := by omega
           have hz2 : ((i : Int) == 0) = false := beq_false_of_ne hz1
           obtain ⟨j, hj⟩ : ∃ j, j = i - 1 := ⟨_, rfl⟩
           have e1 : wrap64 ((i : Int) - 1) = (j : Int) := by rw [w64' _ (by omega) (by have := HL.out; omega)]; omega
           have e2 : j < l3.length := by omega
           obtain ⟨ad2, had, y0, y1⟩ := at_T25 HCC.out (j : Int) (by omega) (by omega)
           cases had
           obtain ⟨q, hq⟩ : ∃ q, rd_T25 l3 (j : Int) = q := ⟨_, rfl⟩
           have hqh : hasP l0 l1 q.f0 q.f1 = true := by rw [← hq]; exact HS.out.has j (by omega)
           have hqi := (hasP_iff l0 l1 _ _).1 hqh
           have HQI := Aside0.mk (show (0 ≤ q.f0 ∧ q.f0 ≤ 1000) ∧ (0 ≤ q.f1 ∧ q.f1 ≤ 1000) from ⟨⟨by omega, by have := HO.out.ha; omega⟩, ⟨by omega, by have := HO.out.hb; omega⟩⟩)
           rw [hq, Int.toNat_natCast] at y0 y1
           have HY := Aside0.mk (And.intro y0 y1)
           have HQ := Aside0.mk (And.intro hq hj)
           obtain ⟨mv, hmv⟩ : ∃ m, movesOf l0 l1 q.f0 q.f1 = m := ⟨_, rfl⟩
           have hcn := contains_f q p hqh HZ.out
           rw [hmv] at hcn
           have HMM := Aside0.mk hmv
           generalize hz3 : stepB q p = z2 at hcn
           have HZ2 := Aside0.mk hcn
           have HZ3 := Aside0.mk hz3
           clear hz3 hcn hmv hq hqh hqi y0 y1 hj
           go_wp2_with (go_at_call 46; refine HCALL.out.mono ?_; rintro e w2 ⟨rfl, hb2⟩; have HX2 := Aside0.mk (blk_below HBB.out.2 hb2); have HW2 := Aside0.mk (below_then HBB.out.1 HBB.out.1.size hb2); clear hb2)
           have hwd : Below wr.heap.size wr w2.drew := below_then HW2.out HW2.out.size (pw_below_drewN (Below.refl _ _) 1)
           have KK := Aside0.mk (And.intro (show w2.drew.cell? ⟨wr.heap.size, 0, none⟩ = some (.int .i64 p.f0) from (blk_cell HX2.out 0).trans rfl) (And.intro (show w2.drew.cell? ⟨wr.heap.size, 1, none⟩ = some (.int .i64 p.f1) from (blk_cell HX2.out 1).trans rfl) (And.intro (pw_cell_below hwd HY.out.1) (pw_cell_below hwd HY.out.2))))
           have HWD := Aside0.mk hwd
           have HTA := Aside0.mk (HTW.out.below hwd)
           clear hwd x0 x1
           refine start_ (n := 16) (S := fun w' => w'.cell? ⟨wr.heap.size, 0, none⟩ = some (.int .i64 p.f0) ∧ w'.cell? ⟨wr.heap.size, 1, none⟩ = some (.int .i64 p.f1) ∧ w'.cell? (ad.add (j * 2)) = some (.int .i64 q.f0) ∧ w'.cell? ⟨(ad.add (j * 2)).block, (ad.add (j * 2)).off + 1, none⟩ = some (.int .i64 q.f1)) (ds := []) #[false, false, false, false, false, false, false, false, false, false, false, false, false, false, false, false] (by kernel_rfl) rfl rfl KK.out (fun hHeld => ?_)
           refine with_tabW hgt14_tab hgt14_bits (fun HT_ HW_ => ?_)
           refine take_ (i := 0) (N := some 48) (v := ?_) (a' := ?_) #[true, false, false, false, false, false, false, false, false, false, false, false, false, false, false, false] rfl rfl (take_ofW HT_.out HW_.out (by kernel_rfl)) (fun _ _ _ h => h) (Or.inl ⟨by rfl, ?_⟩) hHeld ?_ ?_
           rotate_left
           · rintro w' ⟨s0, s1, s2, s3⟩
             go_simp
             with_reducible rfl
           rotate_left
           · simp only [Act.put, List.setIfInBounds_toArray, List.set_cons_zero, List.set_cons_succ, i64_w, i32_w]
             rfl
           refine take_ (i := 1) (N := some 49) (v := ?_) (a' := ?_) #[true, true, false, false, false, false, false, false, false, false, false, false, false, false, false, false] rfl rfl (take_ofW HT_.out HW_.out (by kernel_rfl)) (fun _ _ _ h => h) (Or.inl ⟨by rfl, ?_⟩) hHeld ?_ ?_
           rotate_left
           · rintro w' ⟨s0, s1, s2, s3⟩
             go_simp
             with_reducible rfl
           rotate_left
           · simp only [Act.put, List.setIfInBounds_toArray, List.set_cons_zero, List.set_cons_succ, i64_w, i32_w]
             rfl
           refine take_ (i := 2) (N := some 50) (v := ?_) (a' := ?_) #[true, true, true, false, false, false, false, false, false, false, false, false, false, false, false, false] rfl rfl (take_ofW HT_.out HW_.out (by kernel_rfl)) (fun _ _ _ h => h) (Or.inl ⟨by rfl, ?_⟩) hHeld ?_ ?_
           rotate_left
           · rintro w' ⟨s0, s1, s2, s3⟩
             go_simp
             with_reducible rfl
           rotate_left
           · simp only [Act.put, List.setIfInBounds_toArray, List.set_cons_zero, List.set_cons_succ, i64_w, i32_w]
             rfl
           generalize w2.drew = wA at KK HWD HTA hHeld ⊢
           refine take_ (i := 3) (N := some 51) (v := ?_) (a' := ?_) #[true, true, true, true, false, false, false, false, false, false, false, false, false, false, false, false] rfl rfl (take_ofW HT_.out HW_.out (by kernel_rfl)) (fun _ _ _ h => h) (Or.inl ⟨by rfl, ?_⟩) hHeld ?_ ?_
           rotate_left
           · rintro w' ⟨s0, s1, s2, s3⟩
             go_simp
             with_reducible rfl
           rotate_left
           · simp only [Act.put, List.setIfInBounds_toArray, List.set_cons_zero, List.set_cons_succ, i64_w, i32_w]
             rfl
           refine take_ (i := 4) (N := some 52) (v := ?_) (a' := ?_) #[true, true, true, true, true, false, false, false, false, false, false, false, false, false, false, false] rfl rfl (take_ofW HT_.out HW_.out (by kernel_rfl)) (fun _ _ _ h => h) (Or.inl ⟨by rfl, ?_⟩) hHeld ?_ ?_
           rotate_left
           · rintro w' ⟨s0, s1, s2, s3⟩
             go_simp
             with_reducible rfl
           rotate_left
           · simp only [Act.put, List.setIfInBounds_toArray, List.set_cons_zero, List.set_cons_succ, i64_w, i32_w]
             rfl
           refine take_ (i := 5) (N := some 53) (v := ?_) (a' := ?_) #[true, true, true, true, true, true, false, false, false, false, false, false, false, false, false, false] rfl rfl (take_ofW HT_.out HW_.out (by kernel_rfl)) (fun _ _ _ h => h) (Or.inl ⟨by rfl, ?_⟩) hHeld ?_ ?_
           rotate_left
           · rintro w' ⟨s0, s1, s2, s3⟩
             go_simp
             with_reducible rfl
           rotate_left
           · simp only [Act.put, List.setIfInBounds_toArray, List.set_cons_zero, List.set_cons_succ, i64_w, i32_w]
             rfl
           refine take_ (i := 6) (N := some 54) (v := ?_) (a' := ?_) #[true, true, true, true, true, true, true, false, false, false, false, false, false, false, false, false] rfl rfl (take_ofW HT_.out HW_.out (by kernel_rfl)) (fun _ _ _ h => h) (Or.inl ⟨by rfl, ?_⟩) hHeld ?_ ?_
           rotate_left
           · rintro w' ⟨s0, s1, s2, s3⟩
             go_simp
             with_reducible rfl
           rotate_left
           · simp only [Act.put, List.setIfInBounds_toArray, List.set_cons_zero, List.set_cons_succ, i64_w, i32_w]
             rfl
           refine take_ (i := 7) (N := some 55) (v := ?_) (a' := ?_) #[true, true, true, true, true, true, true, true, false, false, false, false, false, false, false, false] rfl rfl (take_ofW HT_.out HW_.out (by kernel_rfl)) (fun _ _ _ h => h) (Or.inl ⟨by rfl, ?_⟩) hHeld ?_ ?_
           rotate_left
           · rintro w' ⟨s0, s1, s2, s3⟩
             go_simp
             with_reducible rfl
           rotate_left
           · simp only [Act.put, List.setIfInBounds_toArray, List.set_cons_zero, List.set_cons_succ, i64_w, i32_w]
             rfl
           refine take_ (i := 8) (N := some 56) (v := ?_) (a' := ?_) #[true, true, true, true, true, true, true, true, true, false, false, false, false, false, false, false] rfl rfl (take_ofW HT_.out HW_.out (by kernel_rfl)) (fun _ _ _ h => h) (Or.inl ⟨by rfl, ?_⟩) hHeld ?_ ?_
           rotate_left
           · rintro w' ⟨s0, s1, s2, s3⟩
             go_simp
             with_reducible rfl
           rotate_left
           · simp only [Act.put, List.setIfInBounds_toArray, List.set_cons_zero, List.set_cons_succ, i64_w, i32_w]
             rfl
           refine take_ (i := 11) (N := some 59) (v := ?_) (a' := ?_) #[true, true, true, true, true, true, true, true, true, false, false, true, false, false, false, false] rfl rfl (take_ofW HT_.out HW_.out (by kernel_rfl)) (fun _ _ _ h => h) (Or.inl ⟨by rfl, ?_⟩) hHeld ?_ ?_
           rotate_left
           · rintro w' ⟨s0, s1, s2, s3⟩
             go_simp
             with_reducible rfl
           rotate_left
           · simp only [Act.put, List.setIfInBounds_toArray, List.set_cons_zero, List.set_cons_succ, i64_w, i32_w]
             rfl
           refine one_ (i := 9) (N := some 57) #[true, true, true, true, true, true, true, true, true, true, false, true, false, false, false, false] rfl rfl (one_of HT_.out (by kernel_rfl)) (by decide) (fun K hK => ?_)
           refine goes_ Try.func52 (by kernel_rfl) rfl #[.pointer (some ⟨g, 0, none⟩), .agg #[.int .i64 q.f0, .int .i64 q.f1]] (by rfl) rfl rfl (by (try simp only [List.map_toArray, List.map_cons, List.map_nil]); first | done | rfl) ?_
           refine (callsIn_wide.1 (moves_in 3 g q.f0 q.f1 wA)).mono ?_
           rintro e w3 ⟨rfl, hw3⟩
           refine ⟨_, rfl, ?_⟩
           have hbb : Below wA.heap.size wA w3 := by rw [hw3]; exact below_alloc (below_alloc (Below.refl _ _) _) _
           have hbt : w3.heap[wA.heap.size]? = some (.cells #[.pointer (some ⟨g, 0, none⟩)] 80 (0, 0)) := by rw [hw3]; exact blk_alloc (blk_new wA _) _
           have hbp : w3.heap[wA.heap.size + 1]? = some (.cells #[.int .i64 q.f0, .int .i64 q.f1] 25 (0, 0)) := by rw [hw3]; have := blk_new (wA.alloc (.cells #[.pointer (some ⟨g, 0, none⟩)] 80)) (.cells #[.int .i64 q.f0, .int .i64 q.f1] 25); rw [World.size_alloc] at this; exact this
           have HMV := Aside0.mk (And.intro hbt (And.intro ((blk_cell hbp 0).trans rfl : w3.cell? ⟨wA.heap.size + 1, 0, none⟩ = some (.int .i64 q.f0)) (And.intro ((blk_cell hbp 1).trans rfl : w3.cell? ⟨wA.heap.size + 1, 1, none⟩ = some (.int .i64 q.f1)) (HTA.out.below hbb))))
           replace KK := Aside0.mk (And.intro (pw_cell_below hbb KK.out.1) (And.intro (pw_cell_below hbb KK.out.2.1) (And.intro (pw_cell_below hbb KK.out.2.2.1) (pw_cell_below hbb KK.out.2.2.2))))
           have HB3 := Aside0.mk (below_then HWD.out HWD.out.size hbb)
           clear hbb hbt hbp hw3
           refine hK.out _ _ KK.out (fun hHeld => ?_)
           clear hK K
           refine norm_ (a' := ?_) ?_ ?_
           rotate_left
           · show Act.put _ (some 57) _ = _
             simp only [Act.put, List.setIfInBounds_toArray, List.set_cons_zero, List.set_cons_succ, i64_w, i32_w]
             rfl
           refine one_ (i := 10) (N := some 58) #[true, true, true, true, true, true, true, true, true, true, true, true, false, false, false, false] rfl rfl (one_of HT_.out (by kernel_rfl)) (by decide) (fun K hK => ?_)
           refine goes_ Try.func67 (by kernel_rfl) rfl #[.func (.func 72) #[] #[.pointer (some ⟨wA.heap.size + 1, 0, none⟩), .pointer (some ⟨wA.heap.size, 0, none⟩)]] (by rfl) rfl rfl (by (try simp only [List.map_toArray, List.map_cons, List.map_nil]); first | done | rfl) ?_
           refine (collect_calls g (wA.heap.size + 1) wA.heap.size l0 l1 q.f0 q.f1 w3 HMV.out.2.1 HMV.out.2.2.1 HMV.out.1 HMV.out.2.2.2 HQI.out.1 HQI.out.2).mono ?_
           rintro e w4 ⟨Am, cm, rfl, hcm, hCm, hbb⟩
           refine ⟨_, rfl, ?_⟩
           rw [HMM.out] at hcm hCm ⊢
           have HCM := Aside0.mk (And.intro hcm hCm)
           replace KK := Aside0.mk (And.intro (pw_cell_below hbb KK.out.1) (And.intro (pw_cell_below hbb KK.out.2.1) (And.intro (pw_cell_below hbb KK.out.2.2.1) (pw_cell_below hbb KK.out.2.2.2))))
           have HB4 := Aside0.mk (below_then HB3.out HB3.out.size hbb)
           clear hbb hcm hCm
           refine hK.out _ _ KK.out (fun hHeld => ?_)
           clear hK K
           refine norm_ (a' := ?_) ?_ ?_
           rotate_left
           · show Act.put _ (some 58) _ = _
             simp only [Act.put, List.setIfInBounds_toArray, List.set_cons_zero, List.set_cons_succ, i64_w, i32_w]
             rfl
           refine one_ (i := 12) (N := some 60) #[true, true, true, true, true, true, true, true, true, true, true, true, true, false, false, false] rfl rfl (one_of HT_.out (by kernel_rfl)) (by decide) (fun K hK => ?_)
           refine goes_ Try.func66 (by kernel_rfl) rfl #[.slice Am mv.length cm, .agg #[.int .i64 p.f0, .int .i64 p.f1]] (by rfl) rfl rfl (by (try simp only [List.map_toArray, List.map_cons, List.map_nil]); first | done | rfl) ?_
           refine (align_Pair_66.calls 10 Am cm mv p.f0 p.f1 z2 w4 HCM.out.2 HCM.out.1 HZ2.out).mono ?_
           rintro e w5 ⟨rfl, hbb⟩
           refine ⟨_, rfl, ?_⟩
           replace KK := Aside0.mk (And.intro (pw_cell_below hbb KK.out.1) (And.intro (pw_cell_below hbb KK.out.2.1) (And.intro (pw_cell_below hbb KK.out.2.2.1) (pw_cell_below hbb KK.out.2.2.2))))
           have HW3 := Aside0.mk (below_then HB4.out HB4.out.size hbb)
           clear hbb
           refine hK.out _ _ KK.out (fun hHeld => ?_)
           clear hK K
           refine norm_ (a' := ?_) ?_ ?_
           rotate_left
           · show Act.put _ (some 60) _ = _
             simp only [Act.put, List.setIfInBounds_toArray, List.set_cons_zero, List.set_cons_succ, i64_w, i32_w]
             rfl
           refine take_ (i := 13) (N := some 61) (v := ?_) (a' := ?_) #[true, true, true, true, true, true, true, true, true, true, true, true, true, true, false, false] rfl rfl (take_ofW HT_.out HW_.out (by kernel_rfl)) (fun _ _ _ h => h) (Or.inl ⟨by rfl, ?_⟩) hHeld ?_ ?_
           rotate_left
           · rintro w' ⟨s0, s1, s2, s3⟩
             go_simp
             with_reducible rfl
           rotate_left
           · simp only [Act.put, List.setIfInBounds_toArray, List.set_cons_zero, List.set_cons_succ, i64_w, i32_w]
             rfl
           refine take_ (i := 14) (N := some 62) (v := ?_) (a' := ?_) #[true, true, true, true, true, true, true, true, true, true, true, true, true, true, true, false] rfl rfl (take_ofW HT_.out HW_.out (by kernel_rfl)) (fun _ _ _ h => h) (Or.inl ⟨by rfl, ?_⟩) hHeld ?_ ?_
           rotate_left
           · rintro w' ⟨s0, s1, s2, s3⟩
             go_simp
             with_reducible rfl
           rotate_left
           · simp only [Act.put, List.setIfInBounds_toArray, List.set_cons_zero, List.set_cons_succ, i64_w, i32_w]
             rfl
           refine take_ (i := 15) (N := some 47) (v := ?_) (a' := ?_) #[true, true, true, true, true, true, true, true, true, true, true, true, true, true, true, true] rfl rfl (take_ofW HT_.out HW_.out (by kernel_rfl)) (fun _ _ _ h => h) (Or.inl ⟨by rfl, ?_⟩) hHeld ?_ ?_
           rotate_left
           · rintro w' ⟨s0, s1, s2, s3⟩
             go_simp
             with_reducible rfl
           rotate_left
           · simp only [Act.put, List.setIfInBounds_toArray, List.set_cons_zero, List.set_cons_succ, i64_w, i32_w]
             rfl
           refine done_ (done_of HT_.out (by kernel_rfl)) ?_
           cases z2 with
           | false =>
            go_wp2
            go_ret2
            have h7 : htAt l0 l1 l3 i = 7 := by unfold htAt; rw [HP.out, ← HQ.out.2, HQ.out.1, if_neg (by rw [HZ.out]; decide), if_neg (show ¬ i = 0 by omega), if_pos HZ3.out]
            have hv := HV.out
            rw [HS.out.err hlt h7 (by decide)] at hv
            obtain ⟨rfl, rfl⟩ := Prod.mk.inj hv
            exact ⟨rfl, HB.out.trans ((HS.out.below.trans (HW3.out.mono HS.out.below.size)).mono HB.out.size)⟩
           | true =>
            have hpp := (hasP_iff l0 l1 _ _).1 HZ.out
            have d0 := KK.out.1
            have d1 := KK.out.2.1
            go_wp2_with (go_at_call 47; refine (far_calls g l0 l1 p.f0 p.f1 _ (HTW.out.below HW3.out) HO.out hpp.1.1 hpp.1.2 hpp.2.1 hpp.2.2).mono ?_; rintro e w6 ⟨rfl, hb4⟩; have HW4 := Aside0.mk (below_then HW3.out HW3.out.size hb4); clear hb4)
            have h0 : htAt l0 l1 l3 (i) = 0 := by unfold htAt; rw [HP.out, ← HQ.out.2, HQ.out.1, if_neg (by rw [HZ.out]; decide), if_neg (show ¬ i = 0 by omega), if_neg (by rw [HZ3.out]; decide)]
            have hwi : wrap64 ((i : Int) + 1) = ((i + 1 : Nat) : Int) := by rw [w64' _ (by omega) (by have := HL.out; omega)]; rfl
            (try rw [hwi])
            clear hwi
            refine ⟨⟨i + 1, mx ht (farD (rd_T59 l0 p.f0) (rd_T59 l1 p.f1)), hlt, rfl, rfl, ⟨by have := HS.out.next hlt h0 (by rw [HP.out]; exact HZ.out) HW4.out; rw [HP.out] at this; exact this⟩⟩, by show l3.length - (((i + 1 : Nat) : Int)).toNat < l3.length - ((i : Int)).toNat; omega⟩
         · have hgt : decide ((i : Int) > 0) = false := decide_eq_false (by omega)
           have hgt2 : decide ((0 : Int) < (i : Int)) = false := decide_eq_false (by omega)
           have hz2 : ((i : Int) == 0) = true := beq_iff_eq.2 (by omega)
           have hz3 : decide ((i : Int) = 0) = true := decide_eq_true (by omega)
           have HI0 := Aside0.mk (show i = 0 by omega)

           by_cases hpz : p.f0 = 0 ∧ p.f1 = 0
           · have b0 : (p.f0 == 0 && p.f1 == 0) = true := by simp [hpz.1, hpz.2]
             have HPZ := Aside0.mk hpz
             clear hpz
             go_wp2_with (go_at_call 46; refine HCALL.out.mono ?_; rintro e w2 ⟨rfl, hb2⟩; have HX2 := Aside0.mk (blk_below HBB.out.2 hb2); have HW2 := Aside0.mk (below_then HBB.out.1 HBB.out.1.size hb2); have d0 : w2.cell? ⟨wr.heap.size, 0, none⟩ = some (.int .i64 p.f0) := (blk_cell HX2.out 0).trans rfl; have d1 : w2.cell? ⟨wr.heap.size, 1, none⟩ = some (.int .i64 p.f1) := (blk_cell HX2.out 1).trans rfl; clear hb2)
             have KK := Aside0.mk (And.intro (show w2.drew.cell? ⟨wr.heap.size, 0, none⟩ = some (.int .i64 p.f0) from (blk_cell HX2.out 0).trans rfl) (show w2.drew.cell? ⟨wr.heap.size, 1, none⟩ = some (.int .i64 p.f1) from (blk_cell HX2.out 1).trans rfl))
             have HW3 := Aside0.mk (show Below wr.heap.size wr w2.drew from below_then HW2.out HW2.out.size (pw_below_drewN (Below.refl _ _) 1))
             clear x0 x1 d0 d1 hz2 hz3
             refine start_ (n := 16) (S := fun w' => w'.cell? ⟨wr.heap.size, 0, none⟩ = some (.int .i64 p.f0) ∧ w'.cell? ⟨wr.heap.size, 1, none⟩ = some (.int .i64 p.f1)) (ds := []) #[false, false, false, false, false, false, false, false, false, false, false, false, false, false, false, false] (by kernel_rfl) rfl rfl KK.out (fun hHeld => ?_)
             refine with_tabW hgt14_tab hgt14_bits (fun HT_ HW_ => ?_)
             refine take_ (i := 0) (N := some 48) (v := ?_) (a' := ?_) #[true, false, false, false, false, false, false, false, false, false, false, false, false, false, false, false] rfl rfl (take_ofW HT_.out HW_.out (by kernel_rfl)) (fun _ _ _ h => h) (Or.inl ⟨by rfl, ?_⟩) hHeld ?_ ?_
             rotate_left
             · rintro w' ⟨s0, s1⟩
               go_simp
               with_reducible rfl
             rotate_left
             · simp only [Act.put, List.setIfInBounds_toArray, List.set_cons_zero, List.set_cons_succ, i64_w, i32_w]
               rfl
             refine take_ (i := 1) (N := some 49) (v := ?_) (a' := ?_) #[true, true, false, false, false, false, false, false, false, false, false, false, false, false, false, false] rfl rfl (take_ofW HT_.out HW_.out (by kernel_rfl)) (fun _ _ _ h => h) (Or.inl ⟨by rfl, ?_⟩) hHeld ?_ ?_
             rotate_left
             · rintro w' ⟨s0, s1⟩
               go_simp
               with_reducible rfl
             rotate_left
             · simp only [Act.put, List.setIfInBounds_toArray, List.set_cons_zero, List.set_cons_succ, i64_w, i32_w]
               rfl
             refine take_ (i := 2) (N := some 50) (v := ?_) (a' := ?_) #[true, true, true, false, false, false, false, false, false, false, false, false, false, false, false, false] rfl rfl (take_ofW HT_.out HW_.out (by kernel_rfl)) (fun _ _ _ h => h) (Or.inl ⟨by rfl, ?_⟩) hHeld ?_ ?_
             rotate_left
             · rintro w' ⟨s0, s1⟩
               go_simp
               with_reducible rfl
             rotate_left
             · simp only [Act.put, List.setIfInBounds_toArray, List.set_cons_zero, List.set_cons_succ, i64_w, i32_w]
               rfl
             generalize w2.drew = w5 at KK HW3 hHeld ⊢
             refine take_ (i := 3) (N := some 51) (v := undef) (a' := ?_) #[true, true, true, true, false, false, false, false, false, false, false, false, false, false, false, false] rfl rfl (take_ofW HT_.out HW_.out (by kernel_rfl)) (fun _ _ _ h => h) (Or.inr ⟨by rfl, rfl⟩) hHeld ?_ ?_
             rotate_left
             · simp only [Act.put, List.setIfInBounds_toArray, List.set_cons_zero, List.set_cons_succ, i64_w, i32_w]
               rfl
             refine take_ (i := 4) (N := some 52) (v := undef) (a' := ?_) #[true, true, true, true, true, false, false, false, false, false, false, false, false, false, false, false] rfl rfl (take_ofW HT_.out HW_.out (by kernel_rfl)) (fun _ _ _ h => h) (Or.inr ⟨by rfl, rfl⟩) hHeld ?_ ?_
             rotate_left
             · simp only [Act.put, List.setIfInBounds_toArray, List.set_cons_zero, List.set_cons_succ, i64_w, i32_w]
               rfl
             refine take_ (i := 5) (N := some 53) (v := undef) (a' := ?_) #[true, true, true, true, true, true, false, false, false, false, false, false, false, false, false, false] rfl rfl (take_ofW HT_.out HW_.out (by kernel_rfl)) (fun _ _ _ h => h) (Or.inr ⟨by rfl, rfl⟩) hHeld ?_ ?_
             rotate_left
             · simp only [Act.put, List.setIfInBounds_toArray, List.set_cons_zero, List.set_cons_succ, i64_w, i32_w]
               rfl
             refine take_ (i := 6) (N := some 54) (v := undef) (a' := ?_) #[true, true, true, true, true, true, true, false, false, false, false, false, false, false, false, false] rfl rfl (take_ofW HT_.out HW_.out (by kernel_rfl)) (fun _ _ _ h => h) (Or.inr ⟨by rfl, rfl⟩) hHeld ?_ ?_
             rotate_left
             · simp only [Act.put, List.setIfInBounds_toArray, List.set_cons_zero, List.set_cons_succ, i64_w, i32_w]
               rfl
             refine take_ (i := 7) (N := some 55) (v := undef) (a' := ?_) #[true, true, true, true, true, true, true, true, false, false, false, false, false, false, false, false] rfl rfl (take_ofW HT_.out HW_.out (by kernel_rfl)) (fun _ _ _ h => h) (Or.inr ⟨by rfl, rfl⟩) hHeld ?_ ?_
             rotate_left
             · simp only [Act.put, List.setIfInBounds_toArray, List.set_cons_zero, List.set_cons_succ, i64_w, i32_w]
               rfl
             refine take_ (i := 8) (N := some 56) (v := undef) (a' := ?_) #[true, true, true, true, true, true, true, true, true, false, false, false, false, false, false, false] rfl rfl (take_ofW HT_.out HW_.out (by kernel_rfl)) (fun _ _ _ h => h) (Or.inr ⟨by rfl, rfl⟩) hHeld ?_ ?_
             rotate_left
             · simp only [Act.put, List.setIfInBounds_toArray, List.set_cons_zero, List.set_cons_succ, i64_w, i32_w]
               rfl
             refine take_ (i := 9) (N := some 57) (v := undef) (a' := ?_) #[true, true, true, true, true, true, true, true, true, true, false, false, false, false, false, false] rfl rfl (take_ofW HT_.out HW_.out (by kernel_rfl)) (fun _ _ _ h => h) (Or.inr ⟨by rfl, rfl⟩) hHeld ?_ ?_
             rotate_left
             · simp only [Act.put, List.setIfInBounds_toArray, List.set_cons_zero, List.set_cons_succ, i64_w, i32_w]
               rfl
             refine take_ (i := 10) (N := some 58) (v := undef) (a' := ?_) #[true, true, true, true, true, true, true, true, true, true, true, false, false, false, false, false] rfl rfl (take_ofW HT_.out HW_.out (by kernel_rfl)) (fun _ _ _ h => h) (Or.inr ⟨by rfl, rfl⟩) hHeld ?_ ?_
             rotate_left
             · simp only [Act.put, List.setIfInBounds_toArray, List.set_cons_zero, List.set_cons_succ, i64_w, i32_w]
               rfl
             refine take_ (i := 11) (N := some 59) (v := undef) (a' := ?_) #[true, true, true, true, true, true, true, true, true, true, true, true, false, false, false, false] rfl rfl (take_ofW HT_.out HW_.out (by kernel_rfl)) (fun _ _ _ h => h) (Or.inr ⟨by rfl, rfl⟩) hHeld ?_ ?_
             rotate_left
             · simp only [Act.put, List.setIfInBounds_toArray, List.set_cons_zero, List.set_cons_succ, i64_w, i32_w]
               rfl
             refine take_ (i := 12) (N := some 60) (v := undef) (a' := ?_) #[true, true, true, true, true, true, true, true, true, true, true, true, true, false, false, false] rfl rfl (take_ofW HT_.out HW_.out (by kernel_rfl)) (fun _ _ _ h => h) (Or.inr ⟨by rfl, rfl⟩) hHeld ?_ ?_
             rotate_left
             · simp only [Act.put, List.setIfInBounds_toArray, List.set_cons_zero, List.set_cons_succ, i64_w, i32_w]
               rfl
             refine take_ (i := 13) (N := some 61) (v := undef) (a' := ?_) #[true, true, true, true, true, true, true, true, true, true, true, true, true, true, false, false] rfl rfl (take_ofW HT_.out HW_.out (by kernel_rfl)) (fun _ _ _ h => h) (Or.inr ⟨by rfl, rfl⟩) hHeld ?_ ?_
             rotate_left
             · simp only [Act.put, List.setIfInBounds_toArray, List.set_cons_zero, List.set_cons_succ, i64_w, i32_w]
               rfl
             refine take_ (i := 14) (N := some 62) (v := ?_) (a' := ?_) #[true, true, true, true, true, true, true, true, true, true, true, true, true, true, true, false] rfl rfl (take_ofW HT_.out HW_.out (by kernel_rfl)) (fun _ _ _ h => h) (Or.inl ⟨by rfl, ?_⟩) hHeld ?_ ?_
             rotate_left
             · rintro w' ⟨s0, s1⟩
               go_simp
               with_reducible rfl
             rotate_left
             · simp only [Act.put, List.setIfInBounds_toArray, List.set_cons_zero, List.set_cons_succ, i64_w, i32_w]
               rfl
             refine take_ (i := 15) (N := some 47) (v := ?_) (a' := ?_) #[true, true, true, true, true, true, true, true, true, true, true, true, true, true, true, true] rfl rfl (take_ofW HT_.out HW_.out (by kernel_rfl)) (fun _ _ _ h => h) (Or.inl ⟨by rfl, ?_⟩) hHeld ?_ ?_
             rotate_left
             · rintro w' ⟨s0, s1⟩
               go_simp
               with_reducible rfl
             rotate_left
             · simp only [Act.put, List.setIfInBounds_toArray, List.set_cons_zero, List.set_cons_succ, i64_w, i32_w]
               rfl
             refine done_ (done_of HT_.out (by kernel_rfl)) ?_
             have hpp := (hasP_iff l0 l1 _ _).1 HZ.out
             have d0 := KK.out.1
             have d1 := KK.out.2
             go_wp2_with (go_at_call 47; refine (far_calls g l0 l1 p.f0 p.f1 _ (HTW.out.below HW3.out) HO.out hpp.1.1 hpp.1.2 hpp.2.1 hpp.2.2).mono ?_; rintro e w6 ⟨rfl, hb4⟩; have HW4 := Aside0.mk (below_then HW3.out HW3.out.size hb4); clear hb4)
             have h0 : htAt l0 l1 l3 (i) = 0 := by unfold htAt; rw [HP.out, if_neg (by rw [HZ.out]; decide), if_pos HI0.out, if_pos HPZ.out]
             have hwi : wrap64 ((i : Int) + 1) = ((i + 1 : Nat) : Int) := by rw [w64' _ (by omega) (by have := HL.out; omega)]; rfl
             (try rw [hwi])
             clear hwi
             refine ⟨⟨i + 1, mx ht (farD (rd_T59 l0 p.f0) (rd_T59 l1 p.f1)), hlt, rfl, rfl, ⟨by have := HS.out.next hlt h0 (by rw [HP.out]; exact HZ.out) HW4.out; rw [HP.out] at this; exact this⟩⟩, by show l3.length - (((i + 1 : Nat) : Int)).toNat < l3.length - ((i : Int)).toNat; omega⟩
           · have b0 : (p.f0 == 0 && p.f1 == 0) = false := by
              cases h : (p.f0 == 0 && p.f1 == 0) with
              | false => rfl
              | true => simp at h; exact absurd h hpz
             have HPZ := Aside0.mk hpz
             clear hpz
             go_wp2_with (go_at_call 46; refine HCALL.out.mono ?_; rintro e w2 ⟨rfl, hb2⟩; have HX2 := Aside0.mk (blk_below HBB.out.2 hb2); have HW2 := Aside0.mk (below_then HBB.out.1 HBB.out.1.size hb2); have d0 : w2.cell? ⟨wr.heap.size, 0, none⟩ = some (.int .i64 p.f0) := (blk_cell HX2.out 0).trans rfl; have d1 : w2.cell? ⟨wr.heap.size, 1, none⟩ = some (.int .i64 p.f1) := (blk_cell HX2.out 1).trans rfl; clear hb2)
             go_ret2
             have h7 : htAt l0 l1 l3 i = 7 := by unfold htAt; rw [HP.out, if_neg (by rw [HZ.out]; decide), if_pos HI0.out, if_neg HPZ.out]
             have hv := HV.out
             rw [HS.out.err hlt h7 (by decide)] at hv
             obtain ⟨rfl, rfl⟩ := Prod.mk.inj hv
             exact ⟨rfl, HB.out.trans ((HS.out.below.trans (HW2.out.mono HS.out.below.size)).mono HB.out.size)⟩
      · have hdec : decide ((i : Int) < (l3.length : Int)) = false := decide_eq_false (by omega)
        obtain rfl : i = l3.length := by omega
        have hv := HV.out
        rw [HS.out.eq, Nat.sub_self, htFrom] at hv
        have HV2 := Aside0.mk hv
        clear hv
        have hC := Kd.C_below (Kd.C_below HR3.out HB.out) (HS.out.below)
        obtain ⟨L1, hL1⟩ : ∃ L1, L1 = l3.length - 1 := ⟨_, rfl⟩
        obtain ⟨ad, rfl, y0, y1⟩ := at_T25 hC (L1 : Int) (by omega) (by omega)
        have e1 : wrap64 ((l3.length : Int) - 1) = (L1 : Int) := by rw [w64' _ (by omega) (by have := HL.out; omega)]; omega
        have e2 : L1 < l3.length := by omega
        rw [← hL1] at HV2
        obtain ⟨q, hq⟩ : ∃ q, rd_T25 l3 (L1 : Int) = q := ⟨_, rfl⟩
        rw [hq] at HV2
        rw [hq, Int.toNat_natCast] at y0 y1
        obtain ⟨At0, ct0, At1, ct1, hTb, _, _⟩ := HTW.out
        obtain ⟨n1, hn1⟩ : ∃ n1, n1 = (l0.length : Int) - 1 := ⟨_, rfl⟩
        obtain ⟨m1, hm1⟩ : ∃ m1, m1 = (l1.length : Int) - 1 := ⟨_, rfl⟩
        rw [← hn1, ← hm1] at hTb HV2
        have g2 : wr.cell? ⟨g, 2, none⟩ = some (.int .i64 n1) := (blk_cell hTb 2).trans rfl
        have g3 : wr.cell? ⟨g, 3, none⟩ = some (.int .i64 m1) := (blk_cell hTb 3).trans rfl
        have hwd : Below wr.heap.size wr wr.drew := pw_below_drewN (Below.refl _ _) 1
        have KK := Aside0.mk (And.intro (pw_cell_below hwd y0) (And.intro (pw_cell_below hwd y1) (And.intro (pw_cell_below hwd g2) (pw_cell_below hwd g3))))
        have HWD := Aside0.mk hwd
        clear hL1 hq hn1 hm1 hTb g2 g3 y0 y1 hC hwd
        by_cases hz : q.f0 = n1 ∧ q.f1 = m1
        · have b0 : (q.f0 == n1 && q.f1 == m1) = true := by simp [hz.1, hz.2]
          have HZZ := Aside0.mk hz
          clear hz
          go_upto_region 18 with fail
          refine start_ (n := 11) (S := fun w' => w'.cell? (ad.add (L1 * 2)) = some (.int .i64 q.f0) ∧ w'.cell? ⟨(ad.add (L1 * 2)).block, (ad.add (L1 * 2)).off + 1, none⟩ = some (.int .i64 q.f1) ∧ w'.cell? ⟨g, 2, none⟩ = some (.int .i64 n1) ∧ w'.cell? ⟨g, 3, none⟩ = some (.int .i64 m1)) (ds := []) #[false, false, false, false, false, false, false, false, false, false, false] (by kernel_rfl) rfl rfl KK.out (fun hHeld => ?_)
          refine with_tabW hgt18_tab hgt18_bits (fun HT_ HW_ => ?_)
          refine take_ (i := 0) (N := some 69) (v := ?_) (a' := ?_) #[true, false, false, false, false, false, false, false, false, false, false] rfl rfl (take_ofW HT_.out HW_.out (by kernel_rfl)) (fun _ _ _ h => h) (Or.inl ⟨by rfl, ?_⟩) hHeld ?_ ?_
          rotate_left
          · rintro w' ⟨s0, s1, s2, s3⟩
            go_simp
            with_reducible rfl
          rotate_left
          · simp only [Act.put, List.setIfInBounds_toArray, List.set_cons_zero, List.set_cons_succ, i64_w, i32_w]
            rfl
          refine take_ (i := 1) (N := some 70) (v := ?_) (a' := ?_) #[true, true, false, false, false, false, false, false, false, false, false] rfl rfl (take_ofW HT_.out HW_.out (by kernel_rfl)) (fun _ _ _ h => h) (Or.inl ⟨by rfl, ?_⟩) hHeld ?_ ?_
          rotate_left
          · rintro w' ⟨s0, s1, s2, s3⟩
            go_simp
            with_reducible rfl
          rotate_left
          · simp only [Act.put, List.setIfInBounds_toArray, List.set_cons_zero, List.set_cons_succ, i64_w, i32_w]
            rfl
          refine take_ (i := 2) (N := some 71) (v := ?_) (a' := ?_) #[true, true, true, false, false, false, false, false, false, false, false] rfl rfl (take_ofW HT_.out HW_.out (by kernel_rfl)) (fun _ _ _ h => h) (Or.inl ⟨by rfl, ?_⟩) hHeld ?_ ?_
          rotate_left
          · rintro w' ⟨s0, s1, s2, s3⟩
            go_simp
            with_reducible rfl
          rotate_left
          · simp only [Act.put, List.setIfInBounds_toArray, List.set_cons_zero, List.set_cons_succ, i64_w, i32_w]
            rfl
          refine take_ (i := 3) (N := some 72) (v := ?_) (a' := ?_) #[true, true, true, true, false, false, false, false, false, false, false] rfl rfl (take_ofW HT_.out HW_.out (by kernel_rfl)) (fun _ _ _ h => h) (Or.inl ⟨by rfl, ?_⟩) hHeld ?_ ?_
          rotate_left
          · rintro w' ⟨s0, s1, s2, s3⟩
            go_simp
            with_reducible rfl
          rotate_left
          · simp only [Act.put, List.setIfInBounds_toArray, List.set_cons_zero, List.set_cons_succ, i64_w, i32_w]
            rfl
          refine take_ (i := 4) (N := some 73) (v := ?_) (a' := ?_) #[true, true, true, true, true, false, false, false, false, false, false] rfl rfl (take_ofW HT_.out HW_.out (by kernel_rfl)) (fun _ _ _ h => h) (Or.inl ⟨by rfl, ?_⟩) hHeld ?_ ?_
          rotate_left
          · rintro w' ⟨s0, s1, s2, s3⟩
            go_simp
            with_reducible rfl
          rotate_left
          · simp only [Act.put, List.setIfInBounds_toArray, List.set_cons_zero, List.set_cons_succ, i64_w, i32_w]
            rfl
          refine take_ (i := 5) (N := some 74) (v := ?_) (a' := ?_) #[true, true, true, true, true, true, false, false, false, false, false] rfl rfl (take_ofW HT_.out HW_.out (by kernel_rfl)) (fun _ _ _ h => h) (Or.inl ⟨by rfl, ?_⟩) hHeld ?_ ?_
          rotate_left
          · rintro w' ⟨s0, s1, s2, s3⟩
            go_simp
            with_reducible rfl
          rotate_left
          · simp only [Act.put, List.setIfInBounds_toArray, List.set_cons_zero, List.set_cons_succ, i64_w, i32_w]
            rfl
          refine take_ (i := 6) (N := some 75) (v := ?_) (a' := ?_) #[true, true, true, true, true, true, true, false, false, false, false] rfl rfl (take_ofW HT_.out HW_.out (by kernel_rfl)) (fun _ _ _ h => h) (Or.inl ⟨by rfl, ?_⟩) hHeld ?_ ?_
          rotate_left
          · rintro w' ⟨s0, s1, s2, s3⟩
            go_simp
            with_reducible rfl
          rotate_left
          · simp only [Act.put, List.setIfInBounds_toArray, List.set_cons_zero, List.set_cons_succ, i64_w, i32_w]
            rfl
          refine take_ (i := 7) (N := some 76) (v := ?_) (a' := ?_) #[true, true, true, true, true, true, true, true, false, false, false] rfl rfl (take_ofW HT_.out HW_.out (by kernel_rfl)) (fun _ _ _ h => h) (Or.inl ⟨by rfl, ?_⟩) hHeld ?_ ?_
          rotate_left
          · rintro w' ⟨s0, s1, s2, s3⟩
            go_simp
            with_reducible rfl
          rotate_left
          · simp only [Act.put, List.setIfInBounds_toArray, List.set_cons_zero, List.set_cons_succ, i64_w, i32_w]
            rfl
          refine take_ (i := 8) (N := some 77) (v := ?_) (a' := ?_) #[true, true, true, true, true, true, true, true, true, false, false] rfl rfl (take_ofW HT_.out HW_.out (by kernel_rfl)) (fun _ _ _ h => h) (Or.inl ⟨by rfl, ?_⟩) hHeld ?_ ?_
          rotate_left
          · rintro w' ⟨s0, s1, s2, s3⟩
            go_simp
            with_reducible rfl
          rotate_left
          · simp only [Act.put, List.setIfInBounds_toArray, List.set_cons_zero, List.set_cons_succ, i64_w, i32_w]
            rfl
          refine take_ (i := 9) (N := some 78) (v := ?_) (a' := ?_) #[true, true, true, true, true, true, true, true, true, true, false] rfl rfl (take_ofW HT_.out HW_.out (by kernel_rfl)) (fun _ _ _ h => h) (Or.inl ⟨by rfl, ?_⟩) hHeld ?_ ?_
          rotate_left
          · rintro w' ⟨s0, s1, s2, s3⟩
            go_simp
            with_reducible rfl
          rotate_left
          · simp only [Act.put, List.setIfInBounds_toArray, List.set_cons_zero, List.set_cons_succ, i64_w, i32_w]
            rfl
          refine take_ (i := 10) (N := some 79) (v := ?_) (a' := ?_) #[true, true, true, true, true, true, true, true, true, true, true] rfl rfl (take_ofW HT_.out HW_.out (by kernel_rfl)) (fun _ _ _ h => h) (Or.inl ⟨by rfl, ?_⟩) hHeld ?_ ?_
          rotate_left
          · rintro w' ⟨s0, s1, s2, s3⟩
            go_simp
            with_reducible rfl
          rotate_left
          · simp only [Act.put, List.setIfInBounds_toArray, List.set_cons_zero, List.set_cons_succ, i64_w, i32_w]
            rfl
          refine done_ (done_of HT_.out (by kernel_rfl)) ?_
          go_wp2
          go_ret2
          have hv := HV2.out
          rw [if_pos HZZ.out] at hv
          obtain ⟨rfl, rfl⟩ := Prod.mk.inj hv
          exact ⟨rfl, HB.out.trans ((HS.out.below.trans (HWD.out.mono HS.out.below.size)).mono HB.out.size)⟩
        · have b0 : (q.f0 == n1 && q.f1 == m1) = false := by
           cases h : (q.f0 == n1 && q.f1 == m1) with
           | false => rfl
           | true => simp at h; exact absurd h hz
          have HZZ := Aside0.mk hz
          clear hz
          go_upto_region 18 with fail
          refine start_ (n := 11) (S := fun w' => w'.cell? (ad.add (L1 * 2)) = some (.int .i64 q.f0) ∧ w'.cell? ⟨(ad.add (L1 * 2)).block, (ad.add (L1 * 2)).off + 1, none⟩ = some (.int .i64 q.f1) ∧ w'.cell? ⟨g, 2, none⟩ = some (.int .i64 n1) ∧ w'.cell? ⟨g, 3, none⟩ = some (.int .i64 m1)) (ds := []) #[false, false, false, false, false, false, false, false, false, false, false] (by kernel_rfl) rfl rfl KK.out (fun hHeld => ?_)
          refine with_tabW hgt18_tab hgt18_bits (fun HT_ HW_ => ?_)
          refine take_ (i := 0) (N := some 69) (v := ?_) (a' := ?_) #[true, false, false, false, false, false, false, false, false, false, false] rfl rfl (take_ofW HT_.out HW_.out (by kernel_rfl)) (fun _ _ _ h => h) (Or.inl ⟨by rfl, ?_⟩) hHeld ?_ ?_
          rotate_left
          · rintro w' ⟨s0, s1, s2, s3⟩
            go_simp
            with_reducible rfl
          rotate_left
          · simp only [Act.put, List.setIfInBounds_toArray, List.set_cons_zero, List.set_cons_succ, i64_w, i32_w]
            rfl
          refine take_ (i := 1) (N := some 70) (v := ?_) (a' := ?_) #[true, true, false, false, false, false, false, false, false, false, false] rfl rfl (take_ofW HT_.out HW_.out (by kernel_rfl)) (fun _ _ _ h => h) (Or.inl ⟨by rfl, ?_⟩) hHeld ?_ ?_
          rotate_left
          · rintro w' ⟨s0, s1, s2, s3⟩
            go_simp
            with_reducible rfl
          rotate_left
          · simp only [Act.put, List.setIfInBounds_toArray, List.set_cons_zero, List.set_cons_succ, i64_w, i32_w]
            rfl
          refine take_ (i := 2) (N := some 71) (v := ?_) (a' := ?_) #[true, true, true, false, false, false, false, false, false, false, false] rfl rfl (take_ofW HT_.out HW_.out (by kernel_rfl)) (fun _ _ _ h => h) (Or.inl ⟨by rfl, ?_⟩) hHeld ?_ ?_
          rotate_left
          · rintro w' ⟨s0, s1, s2, s3⟩
            go_simp
            with_reducible rfl
          rotate_left
          · simp only [Act.put, List.setIfInBounds_toArray, List.set_cons_zero, List.set_cons_succ, i64_w, i32_w]
            rfl
          refine take_ (i := 3) (N := some 72) (v := ?_) (a' := ?_) #[true, true, true, true, false, false, false, false, false, false, false] rfl rfl (take_ofW HT_.out HW_.out (by kernel_rfl)) (fun _ _ _ h => h) (Or.inl ⟨by rfl, ?_⟩) hHeld ?_ ?_
          rotate_left
          · rintro w' ⟨s0, s1, s2, s3⟩
            go_simp
            with_reducible rfl
          rotate_left
          · simp only [Act.put, List.setIfInBounds_toArray, List.set_cons_zero, List.set_cons_succ, i64_w, i32_w]
            rfl
          refine take_ (i := 4) (N := some 73) (v := ?_) (a' := ?_) #[true, true, true, true, true, false, false, false, false, false, false] rfl rfl (take_ofW HT_.out HW_.out (by kernel_rfl)) (fun _ _ _ h => h) (Or.inl ⟨by rfl, ?_⟩) hHeld ?_ ?_
          rotate_left
          · rintro w' ⟨s0, s1, s2, s3⟩
            go_simp
            with_reducible rfl
          rotate_left
          · simp only [Act.put, List.setIfInBounds_toArray, List.set_cons_zero, List.set_cons_succ, i64_w, i32_w]
            rfl
          refine take_ (i := 5) (N := some 74) (v := ?_) (a' := ?_) #[true, true, true, true, true, true, false, false, false, false, false] rfl rfl (take_ofW HT_.out HW_.out (by kernel_rfl)) (fun _ _ _ h => h) (Or.inl ⟨by rfl, ?_⟩) hHeld ?_ ?_
          rotate_left
          · rintro w' ⟨s0, s1, s2, s3⟩
            go_simp
            with_reducible rfl
          rotate_left
          · simp only [Act.put, List.setIfInBounds_toArray, List.set_cons_zero, List.set_cons_succ, i64_w, i32_w]
            rfl
          refine take_ (i := 6) (N := some 75) (v := ?_) (a' := ?_) #[true, true, true, true, true, true, true, false, false, false, false] rfl rfl (take_ofW HT_.out HW_.out (by kernel_rfl)) (fun _ _ _ h => h) (Or.inl ⟨by rfl, ?_⟩) hHeld ?_ ?_
          rotate_left
          · rintro w' ⟨s0, s1, s2, s3⟩
            go_simp
            with_reducible rfl
          rotate_left
          · simp only [Act.put, List.setIfInBounds_toArray, List.set_cons_zero, List.set_cons_succ, i64_w, i32_w]
            rfl
          refine take_ (i := 7) (N := some 76) (v := ?_) (a' := ?_) #[true, true, true, true, true, true, true, true, false, false, false] rfl rfl (take_ofW HT_.out HW_.out (by kernel_rfl)) (fun _ _ _ h => h) (Or.inl ⟨by rfl, ?_⟩) hHeld ?_ ?_
          rotate_left
          · rintro w' ⟨s0, s1, s2, s3⟩
            go_simp
            with_reducible rfl
          rotate_left
          · simp only [Act.put, List.setIfInBounds_toArray, List.set_cons_zero, List.set_cons_succ, i64_w, i32_w]
            rfl
          refine take_ (i := 8) (N := some 77) (v := ?_) (a' := ?_) #[true, true, true, true, true, true, true, true, true, false, false] rfl rfl (take_ofW HT_.out HW_.out (by kernel_rfl)) (fun _ _ _ h => h) (Or.inl ⟨by rfl, ?_⟩) hHeld ?_ ?_
          rotate_left
          · rintro w' ⟨s0, s1, s2, s3⟩
            go_simp
            with_reducible rfl
          rotate_left
          · simp only [Act.put, List.setIfInBounds_toArray, List.set_cons_zero, List.set_cons_succ, i64_w, i32_w]
            rfl
          refine take_ (i := 9) (N := some 78) (v := ?_) (a' := ?_) #[true, true, true, true, true, true, true, true, true, true, false] rfl rfl (take_ofW HT_.out HW_.out (by kernel_rfl)) (fun _ _ _ h => h) (Or.inl ⟨by rfl, ?_⟩) hHeld ?_ ?_
          rotate_left
          · rintro w' ⟨s0, s1, s2, s3⟩
            go_simp
            with_reducible rfl
          rotate_left
          · simp only [Act.put, List.setIfInBounds_toArray, List.set_cons_zero, List.set_cons_succ, i64_w, i32_w]
            rfl
          refine take_ (i := 10) (N := some 79) (v := ?_) (a' := ?_) #[true, true, true, true, true, true, true, true, true, true, true] rfl rfl (take_ofW HT_.out HW_.out (by kernel_rfl)) (fun _ _ _ h => h) (Or.inl ⟨by rfl, ?_⟩) hHeld ?_ ?_
          rotate_left
          · rintro w' ⟨s0, s1, s2, s3⟩
            go_simp
            with_reducible rfl
          rotate_left
          · simp only [Act.put, List.setIfInBounds_toArray, List.set_cons_zero, List.set_cons_succ, i64_w, i32_w]
            rfl
          refine done_ (done_of HT_.out (by kernel_rfl)) ?_
          go_wp2
          go_ret2
          have hv := HV2.out
          rw [if_neg HZZ.out] at hv
          obtain ⟨rfl, rfl⟩ := Prod.mk.inj hv
          exact ⟨rfl, HB.out.trans ((HS.out.below.trans (HWD.out.mono HS.out.below.size)).mono HB.out.size)⟩
 · rw [if_neg h0] at h1
   obtain ⟨rfl, rfl⟩ := Prod.mk.inj h1
   have hb0 : (e != 0) = true := by simp [h0]
   have H0 := Aside0.mk h0
   clear h0 h1
   go_enter Try.func35, Try.ntmps35
   go_wp2_with fail
   refine (newTable_no A0 c0 l0 A1 c1 l1 e _ HR0.out HC.out.1 HR1.out HC.out.2.1 HE.out H0.out).mono ?_
   rintro e w1 ⟨rfl, hb⟩
   have HB := Aside0.mk hb
   clear hb
   go_wp2
   go_ret2
   exact ⟨rfl, HB.out⟩
end

end Go.Proofs.Ytkocigldchiifaa.H

/- Heights of lists of pairs, one by one and counted. -/
namespace Go.Proofs.Ytkocigldchiifaa.H
open Go.RowKit Go.Proofs.YtkocigldchiifaaW.PrintWords Go.Proofs.YtkocigldchiifaaW.PrintLast Go.Proofs.YtkocigldchiifaaW.PrintMore
open Go.Shelf Go.Proofs.Ytkocigldchiifaa.QA
set_option linter.unusedVariables false
set_option linter.unusedSimpArgs false

/-- The greatest distance from a place of the list on. -/
def htMax (a b : List S59) (l : List S25) : Nat → Nat → Int → Int
 | 0, _, ht => ht
 | n + 1, i, ht => htMax a b l n (i + 1) (mx ht (dist a b (rd_T25 l i).f0 (rd_T25 l i).f1))
theorem htMax_le (a b : List S59) (l : List S25) (g : Int) : ∀ (n i : Nat) (ht : Int), htMax a b l n i ht ≤ g ↔ ht ≤ g ∧ ∀ j : Nat, i ≤ j → j < i + n → dist a b (rd_T25 l j).f0 (rd_T25 l j).f1 ≤ g := by
 intro n
 induction n with
 | zero => intro i ht; exact ⟨fun h => ⟨h, fun j h1 h2 => by omega⟩, fun h => h.1⟩
 | succ n ih =>
  intro i ht
  rw [htMax, ih, mx_le_iff]
  constructor
  · rintro ⟨⟨h1, h2⟩, h3⟩
    refine ⟨h1, fun j hj hj2 => ?_⟩
    by_cases e : j = i
    · rw [e]; exact h2
    · exact h3 j (by omega) (by omega)
  · rintro ⟨h1, h2⟩
    exact ⟨⟨h1, h2 i (Nat.le_refl _) (by omega)⟩, fun j hj hj2 => h2 j (by omega) (by omega)⟩
/-- A list that begins in the first pair and goes on by moves. -/
structure WkV (a b : List S59) (W : List S25) : Prop where
 pos : 0 < W.length
 first : rd_T25 W 0 = ⟨0, 0⟩
 has : ∀ j : Nat, j < W.length → hasP a b (rd_T25 W j).f0 (rd_T25 W j).f1 = true
 step : ∀ j : Nat, j + 1 < W.length → stepB (rd_T25 W (j : Int)) (rd_T25 W ((j + 1 : Nat) : Int)) = true
theorem WkV.at0 {a b : List S59} {W : List S25} (h : WkV a b W) {i : Nat} (hi : i < W.length) : htAt a b W i = 0 := by
 unfold htAt
 rw [if_neg (by rw [h.has i hi]; simp)]
 by_cases e : i = 0
 · subst e
   rw [if_pos rfl]
   have := h.first
   rw [show ((0 : Nat) : Int) = 0 from rfl, this]
   exact if_pos ⟨rfl, rfl⟩
 · have := h.step (i - 1) (by omega)
   rw [show i - 1 + 1 = i by omega] at this
   rw [if_neg e, if_neg (by rw [this]; simp)]
theorem WkV.ht {a b : List S59} {W : List S25} (h : WkV a b W) (hlast : rd_T25 W ((W.length - 1 : Nat) : Int) = ⟨(a.length : Int) - 1, (b.length : Int) - 1⟩) : htF a b W = (htMax a b W W.length 0 0, 0) := by
 have key : ∀ (n i : Nat) (ht : Int), i + n = W.length → htFrom a b W n i ht = (htMax a b W n i ht, 0) := by
  intro n
  induction n with
  | zero => intro i ht _; rw [htFrom, htMax, hlast]; exact if_pos ⟨rfl, rfl⟩
  | succ n ih =>
   intro i ht hi
   rw [htFrom, htMax, if_pos (h.at0 (by omega))]
   exact ih _ _ (by omega)
 unfold htF
 rw [if_neg (by have := h.pos; omega)]
 exact key _ _ _ (by omega)
theorem WkV.way {a b : List S59} {W : List S25} (h : WkV a b W) (hlast : rd_T25 W ((W.length - 1 : Nat) : Int) = ⟨(a.length : Int) - 1, (b.length : Int) - 1⟩) {g : Int} (hd : ∀ j : Nat, j < W.length → dist a b (rd_T25 W j).f0 (rd_T25 W j).f1 ≤ g) : Way a b g 0 0 := by
 have key : ∀ (n : Nat) (j : Nat), j < W.length → W.length - 1 - j = n → Way a b g (rd_T25 W j).f0 (rd_T25 W j).f1 := by
  intro n
  induction n with
  | zero =>
   intro j hj hn
   obtain rfl : j = W.length - 1 := by omega
   have e := congrArg S25.f0 hlast
   have e' := congrArg S25.f1 hlast
   exact .last _ _ e e' (h.has _ hj) (hd _ hj)
  | succ n ih =>
   intro j hj hn
   have h1 := ih (j + 1) (by omega) (by omega)
   have hs := h.step j (by omega)
   have hq := h.has (j + 1) (by omega)
   refine .step _ _ (rd_T25 W ((j + 1 : Nat) : Int)) (h.has j hj) (hd j hj) ?_ h1
   refine mem_moves.2 ⟨hq, ?_⟩
   revert hs
   generalize rd_T25 W ((j + 1 : Nat) : Int) = q
   generalize rd_T25 W (j : Int) = p
   intro hs
   obtain ⟨q0, q1⟩ := q
   obtain ⟨p0, p1⟩ := p
   unfold stepB isIn at hs
   simp only [Bool.and_eq_true, decide_eq_true_eq, Bool.not_eq_true', beq_eq_false_iff_ne] at hs
   simp only [S25.mk.injEq]
   omega
 have := key (W.length - 1) 0 h.pos (by omega)
 rw [show ((0 : Nat) : Int) = 0 from rfl, h.first] at this
 exact this
end Go.Proofs.Ytkocigldchiifaa.H

/- Walks and barriers: no walk gets through a barrier; where there is none, there is a walk. -/
namespace Go.Proofs.Ytkocigldchiifaa.H
open Go.RowKit Go.Proofs.YtkocigldchiifaaW.PrintWords Go.Proofs.YtkocigldchiifaaW.PrintLast Go.Proofs.YtkocigldchiifaaW.PrintMore
open Go.Shelf Go.Proofs.Ytkocigldchiifaa.QA
set_option linter.unusedVariables false
set_option linter.unusedSimpArgs false

/-- The pairs of a walk from (i, k) to the last one. -/
structure Trk (a b : List S59) (h : Int) (i k : Int) (on : Int → Int → Prop) : Prop where
 at_ : on i k
 ok : ∀ x y, on x y → hasP a b x y = true ∧ dist a b x y ≤ h
 low : ∀ x y, on x y → i ≤ x ∧ k ≤ y
 last : on ((a.length : Int) - 1) ((b.length : Int) - 1)
 row : ∀ x, i ≤ x → x < a.length → ∃ y, on x y
 mono : ∀ x y x' y', on x y → on x' y' → x < x' → y ≤ y'
 fill : ∀ x y y' z, on x y → on x y' → y ≤ z → z ≤ y' → on x z
 link : ∀ x, i ≤ x → x + 1 < a.length → ∃ y z, on x y ∧ on (x + 1) z ∧ z ≤ y + 1
theorem way_trk {a b : List S59} {h i k : Int} (hw : Way a b h i k) : ∃ on, Trk a b h i k on := by
 induction hw with
 | last i k e1 e2 hp hd =>
  refine ⟨fun x y => x = i ∧ y = k, ⟨⟨rfl, rfl⟩, fun x y hh => ?_, fun x y hh => ?_, ⟨e1.symm, e2.symm⟩, fun x h1 h2 => ⟨k, by omega, rfl⟩, fun x y x' y' h1 h2 h3 => by omega, fun x y y' z h1 h2 h3 h4 => ⟨h1.1, by omega⟩, fun x h1 h2 => by omega⟩⟩
  · rw [hh.1, hh.2]; exact ⟨hp, hd⟩
  · omega
 | step i k q hp hd hq hw ih =>
  obtain ⟨on, ht⟩ := ih
  obtain ⟨hqp, hqs⟩ := moves_mem hq
  have hq0 : (q.f0 = i + 1 ∧ q.f1 = k + 1) ∨ (q.f0 = i + 1 ∧ q.f1 = k) ∨ (q.f0 = i ∧ q.f1 = k + 1) := by
   rcases hqs with rfl | rfl | rfl <;> simp
  refine ⟨fun x y => (x = i ∧ y = k) ∨ on x y, ⟨.inl ⟨rfl, rfl⟩, fun x y hh => ?_, fun x y hh => ?_, .inr ht.last, fun x h1 h2 => ?_, fun x y x' y' h1 h2 h3 => ?_, fun x y y' z h1 h2 h3 h4 => ?_, fun x h1 h2 => ?_⟩⟩
  · rcases hh with ⟨rfl, rfl⟩ | hh
    · exact ⟨hp, hd⟩
    · exact ht.ok x y hh
  · rcases hh with ⟨rfl, rfl⟩ | hh
    · omega
    · have := ht.low x y hh
      omega
  · by_cases e : x = i
    · exact ⟨k, .inl ⟨e, rfl⟩⟩
    · obtain ⟨y, hy⟩ := ht.row x (by omega) h2
      exact ⟨y, .inr hy⟩
  · rcases h1 with ⟨rfl, rfl⟩ | h1
    · rcases h2 with ⟨rfl, rfl⟩ | h2
      · omega
      · have := ht.low x' y' h2
        omega
    · rcases h2 with ⟨rfl, rfl⟩ | h2
      · have := ht.low x y h1
        omega
      · exact ht.mono x y x' y' h1 h2 h3
  · rcases h1 with ⟨rfl, rfl⟩ | h1
    · rcases h2 with ⟨_, rfl⟩ | h2
      · exact .inl ⟨rfl, by omega⟩
      · by_cases e : z = y
        · exact .inl ⟨rfl, e⟩
        · have hl := ht.low x y' h2
          have hqi : q.f0 = x ∧ q.f1 = y + 1 := by omega
          refine .inr (ht.fill x (y + 1) y' z ?_ h2 (by omega) h4)
          have := ht.at_
          rw [hqi.1, hqi.2] at this
          exact this
    · rcases h2 with ⟨rfl, rfl⟩ | h2
      · have hl := ht.low x y h1
        exact .inl ⟨rfl, by omega⟩
      · exact .inr (ht.fill x y y' z h1 h2 h3 h4)
  · by_cases e : q.f0 ≤ x
    · obtain ⟨y, z, g1, g2, g3⟩ := ht.link x e h2
      exact ⟨y, z, .inr g1, .inr g2, g3⟩
    · have hx : x = i ∧ q.f0 = i + 1 := by omega
      refine ⟨k, q.f1, .inl ⟨hx.1, rfl⟩, .inr ?_, by omega⟩
      have := ht.at_
      rw [hx.2] at this
      rw [hx.1]
      exact this
theorem preB_iff (p q : S25) : preB p q = true ↔ q.f0 ≤ p.f0 + 1 ∧ p.f1 - 1 ≤ q.f1 ∧ ¬ (q.f0 = p.f0 + 1 ∧ q.f1 = p.f1 - 1) := by
 unfold preB
 simp only [Bool.and_eq_true, decide_eq_true_eq, Bool.not_eq_true', Bool.and_eq_false_iff, beq_eq_false_iff_ne]
 omega
/-- No walk gets through a barrier. -/
theorem chn_side {a b : List S59} {h : Int} {on : Int → Int → Prop} (ht : Trk a b h 0 0 on) {p : S25} (hc : Chn a b h p) : ∀ y, on p.f0 y → y < p.f1 := by
 have hoff : ∀ q : S25, q ∈ aboveOf a b h → ¬ on q.f0 q.f1 := fun q hq ho => by
  have h1 := ((mem_above a b h q).1 hq).2
  have h2 := (ht.ok _ _ ho).2
  unfold dist at h2
  omega
 have hin : ∀ q : S25, q ∈ aboveOf a b h → (0 ≤ q.f0 ∧ q.f0 < a.length) ∧ (0 ≤ q.f1 ∧ q.f1 < b.length) := fun q hq => (hasP_iff a b _ _).1 ((mem_above a b h q).1 hq).1
 have hon : ∀ x y, on x y → (0 ≤ x ∧ x < a.length) ∧ (0 ≤ y ∧ y < b.length) := fun x y ho => (hasP_iff a b _ _).1 (ht.ok x y ho).1
 induction hc with
 | beg p hp hb =>
  intro y hy
  have h1 := hin p hp
  have h2 := hon _ _ hy
  refine Classical.byContradiction fun hge => hoff p hp ?_
  unfold begB at hb
  rw [Bool.or_eq_true, beq_iff_eq, beq_iff_eq] at hb
  rcases hb with hb | hb
  · have h0 := ht.at_
    rw [hb] at hy ⊢
    exact ht.fill 0 0 y p.f1 h0 hy (by omega) (by omega)
  · have : p.f1 = y := by omega
    rw [this]; exact hy
 | step q p hq hp hpre ih =>
  intro y hy
  have h1 := hin p hp
  have h2 := hon _ _ hy
  obtain ⟨g1, g2, g3⟩ := (preB_iff q p).1 hpre
  refine Classical.byContradiction fun hge => hoff p hp ?_
  have hqin : (0 ≤ q.f0 ∧ q.f0 < a.length) ∧ (0 ≤ q.f1 ∧ q.f1 < b.length) := by
   cases hq with
   | beg _ hm _ => exact hin q hm
   | step _ _ _ hm _ => exact hin q hm
  by_cases e : p.f0 = q.f0 + 1
  · obtain ⟨u, z, k1, k2, k3⟩ := ht.link q.f0 (by omega) (by omega)
    have := ih u k1
    rw [← e] at k2
    exact ht.fill p.f0 z y p.f1 k2 hy (by omega) (by omega)
  · by_cases e2 : p.f0 = q.f0
    · have := ih y (by rw [← e2]; exact hy)
      have e3 : p.f1 = y := by omega
      rw [e3]; exact hy
    · obtain ⟨u, hu⟩ := ht.row q.f0 (by omega) (by omega)
      have k1 := ih u hu
      have k2 := ht.mono p.f0 y q.f0 u hy hu (by omega)
      have e3 : p.f1 = y := by omega
      rw [e3]; exact hy
theorem bar_way {a b : List S59} {h : Int} {l : List S25} (hb : BarOK a b h l) : ¬ Way a b h 0 0 := fun hw => by
 obtain ⟨on, ht⟩ := way_trk hw
 obtain ⟨p, hc, he⟩ := hb.chn
 have hs := chn_side ht hc
 have hon : ∀ x y, on x y → (0 ≤ x ∧ x < a.length) ∧ (0 ≤ y ∧ y < b.length) := fun x y ho => (hasP_iff a b _ _).1 (ht.ok x y ho).1
 have hpin : (0 ≤ p.f0 ∧ p.f0 < a.length) ∧ (0 ≤ p.f1 ∧ p.f1 < b.length) := by
  cases hc with
  | beg _ hm _ => exact (hasP_iff a b _ _).1 ((mem_above a b h p).1 hm).1
  | step _ _ _ hm _ => exact (hasP_iff a b _ _).1 ((mem_above a b h p).1 hm).1
 unfold endB at he
 rw [Bool.or_eq_true, beq_iff_eq, beq_iff_eq] at he
 rcases he with he | he
 · have := hs ((b.length : Int) - 1) (by rw [he]; exact ht.last)
   omega
 · obtain ⟨y, hy⟩ := ht.row p.f0 (by omega) (by omega)
   have := hs y hy
   have := hon _ _ hy
   omega
end Go.Proofs.Ytkocigldchiifaa.H

/- What AlignEither asks. -/
namespace Go.Proofs.Ytkocigldchiifaa.H
open Go.RowKit Go.Proofs.YtkocigldchiifaaW.PrintWords Go.Proofs.YtkocigldchiifaaW.PrintLast Go.Proofs.YtkocigldchiifaaW.PrintMore
open Go.Shelf Go.Proofs.Ytkocigldchiifaa.QA
set_option linter.unusedVariables false
set_option linter.unusedSimpArgs false

/-- How many numbers of a list are at most n. -/
def cntL (L : List Int) (n : Int) : Nat := L.countP (fun x => decide (x ≤ n))
structure EitF (a b : List S59) (n G : Int) (W : List S25) (L : List Int) (k k' : Nat) : Prop where
 heights : pianolalaw07_heights.f k a b 0 0 0 = some L
 len : L.length ≤ 100000
 least : pianolalaw07_least.f k' L = some G
 gap : align_Gap.f a b = some (G, 0)
 walk : align_Walk.f a b = some (W, 0)
 wlen : W.length ≤ 1000000
 height : align_Height.f a b W = some (G, 0)
 walks : align_Walks.f a b n = some (((cntL L n : Nat) : Int), 0)
 some : G ≤ n ↔ 0 < cntL L n
 way : G ≤ n ↔ Way a b n 0 0
end Go.Proofs.Ytkocigldchiifaa.H

/- A drawn region whose head only reads and whose last operations stand in one order: the cheap quiet walk for its head. -/
namespace Go.Proofs.Ytkocigldchiifaa.H
open Go

section
variable {P : Program} {ops : Array Oper} {w : World}
theorem still_of_quiet {o : Oper} {a : Act} {K K' : Act → Prop} (hk : ∀ a, K a → K' a) (h : o.quiet P a (fun w' => w' = w) K) : o.still P a w K' := by
 obtain ⟨v, h1, h2⟩ := h
 have h3 := h1 w rfl
 unfold Oper.quietAt at h3
 unfold Oper.still
 generalize (execOp a.eval o).run P w = r at *
 cases r with
 | ok n w' =>
  cases n <;> simp only [Oper.quietUpon] at h3 <;> simp only [Oper.stillUpon]
  case value u => obtain ⟨e1, e2⟩ := h3; rw [e1, e2]; exact ⟨rfl, hk _ h2⟩
  case skip => obtain ⟨e1, e2⟩ := h3; rw [e1, ← e2]; exact ⟨rfl, hk _ h2⟩
  case enter f args => obtain ⟨e1, hc⟩ := h3; rw [e1]; exact ⟨rfl, v, hc, hk _ h2⟩
 | halt x w' => simp only [Oper.quietUpon] at h3
theorem wpStill_of_quiet {Q : Act → Prop} : ∀ (l : List Oper) (a : Act), wpQuiet P ops (fun w' => w' = w) Q l a → wpStill P ops w Q l a
 | [], _, h => h
 | o :: l, a, h => by
  unfold wpQuiet at h
  unfold wpStill
  split
  · rename_i hw; rw [if_pos hw] at h; exact still_of_quiet (fun a' h' => wpStill_of_quiet l a' h') h
  · rename_i hw; rw [if_neg hw] at h; exact wpStill_of_quiet l _ h
theorem region_quiet_tail {id : Nat} {Q : Exit → Act → World → Prop} {a : Act} {l : List Oper} (n : Nat) (hm : P.follows .mixedOrders = true) (hB : Region.lexTailB .any l.toArray n = true)
    (h : wpQuiet P l.toArray (fun w' => w' = w.drew) (fun a' => wpList P l.toArray Q (l.drop n) a' w.drew) (l.take n) a) : (Code.region id l.toArray true).wp P Q a w :=
 wp_region_still_tail n hm hB (wpStill_of_quiet _ _ h)
end
end Go.Proofs.Ytkocigldchiifaa.H

/- What walks reach without a wall. -/
namespace Go.Proofs.Ytkocigldchiifaa.H
open Go.RowKit Go.Proofs.YtkocigldchiifaaW.PrintWords Go.Proofs.YtkocigldchiifaaW.PrintLast Go.Proofs.YtkocigldchiifaaW.PrintMore
open Go.Shelf Go.Proofs.Ytkocigldchiifaa.QA
set_option linter.unusedVariables false
set_option linter.unusedSimpArgs false

/-- A walk from a pair to the last one, all of whose pairs are as P says. -/
inductive Wy (a b : List S59) (P : Int → Int → Prop) : Int → Int → Prop
 | last (i k : Int) : i = (a.length : Int) - 1 → k = (b.length : Int) - 1 → hasP a b i k = true → P i k → Wy a b P i k
 | step (i k : Int) (q : S25) : hasP a b i k = true → P i k → q ∈ movesOf a b i k → Wy a b P q.f0 q.f1 → Wy a b P i k
/-- The pairs of a walk from (i, k) to the last one. -/
structure TrkP (a b : List S59) (P : Int → Int → Prop) (i k : Int) (on : Int → Int → Prop) : Prop where
 at_ : on i k
 ok : ∀ x y, on x y → hasP a b x y = true ∧ P x y
 low : ∀ x y, on x y → i ≤ x ∧ k ≤ y
 last : on ((a.length : Int) - 1) ((b.length : Int) - 1)
 row : ∀ x, i ≤ x → x < a.length → ∃ y, on x y
 mono : ∀ x y x' y', on x y → on x' y' → x < x' → y ≤ y'
 fill : ∀ x y y' z, on x y → on x y' → y ≤ z → z ≤ y' → on x z
 link : ∀ x, i ≤ x → x + 1 < a.length → ∃ y z, on x y ∧ on (x + 1) z ∧ z ≤ y + 1
theorem wy_trk {a b : List S59} {P : Int → Int → Prop} {i k : Int} (hw : Wy a b P i k) : ∃ on, TrkP a b P i k on := by
 induction hw with
 | last i k e1 e2 hp hd =>
  refine ⟨fun x y => x = i ∧ y = k, ⟨⟨rfl, rfl⟩, fun x y hh => ?_, fun x y hh => ?_, ⟨e1.symm, e2.symm⟩, fun x h1 h2 => ⟨k, by omega, rfl⟩, fun x y x' y' h1 h2 h3 => by omega, fun x y y' z h1 h2 h3 h4 => ⟨h1.1, by omega⟩, fun x h1 h2 => by omega⟩⟩
  · rw [hh.1, hh.2]; exact ⟨hp, hd⟩
  · omega
 | step i k q hp hd hq hw ih =>
  obtain ⟨on, ht⟩ := ih
  obtain ⟨hqp, hqs⟩ := moves_mem hq
  have hq0 : (q.f0 = i + 1 ∧ q.f1 = k + 1) ∨ (q.f0 = i + 1 ∧ q.f1 = k) ∨ (q.f0 = i ∧ q.f1 = k + 1) := by
   rcases hqs with rfl | rfl | rfl <;> simp
  refine ⟨fun x y => (x = i ∧ y = k) ∨ on x y, ⟨.inl ⟨rfl, rfl⟩, fun x y hh => ?_, fun x y hh => ?_, .inr ht.last, fun x h1 h2 => ?_, fun x y x' y' h1 h2 h3 => ?_, fun x y y' z h1 h2 h3 h4 => ?_, fun x h1 h2 => ?_⟩⟩
  · rcases hh with ⟨rfl, rfl⟩ | hh
    · exact ⟨hp, hd⟩
    · exact ht.ok x y hh
  · rcases hh with ⟨rfl, rfl⟩ | hh
    · omega
    · have := ht.low x y hh
      omega
  · by_cases e : x = i
    · exact ⟨k, .inl ⟨e, rfl⟩⟩
    · obtain ⟨y, hy⟩ := ht.row x (by omega) h2
      exact ⟨y, .inr hy⟩
  · rcases h1 with ⟨rfl, rfl⟩ | h1
    · rcases h2 with ⟨rfl, rfl⟩ | h2
      · omega
      · have := ht.low x' y' h2
        omega
    · rcases h2 with ⟨rfl, rfl⟩ | h2
      · have := ht.low x y h1
        omega
      · exact ht.mono x y x' y' h1 h2 h3
  · rcases h1 with ⟨rfl, rfl⟩ | h1
    · rcases h2 with ⟨_, rfl⟩ | h2
      · exact .inl ⟨rfl, by omega⟩
      · by_cases e : z = y
        · exact .inl ⟨rfl, e⟩
        · have hl := ht.low x y' h2
          have hqi : q.f0 = x ∧ q.f1 = y + 1 := by omega
          refine .inr (ht.fill x (y + 1) y' z ?_ h2 (by omega) h4)
          have := ht.at_
          rw [hqi.1, hqi.2] at this
          exact this
    · rcases h2 with ⟨rfl, rfl⟩ | h2
      · have hl := ht.low x y h1
        exact .inl ⟨rfl, by omega⟩
      · exact .inr (ht.fill x y y' z h1 h2 h3 h4)
  · by_cases e : q.f0 ≤ x
    · obtain ⟨y, z, g1, g2, g3⟩ := ht.link x e h2
      exact ⟨y, z, .inr g1, .inr g2, g3⟩
    · have hx : x = i ∧ q.f0 = i + 1 := by omega
      refine ⟨k, q.f1, .inl ⟨hx.1, rfl⟩, .inr ?_, by omega⟩
      have := ht.at_
      rw [hx.2] at this
      rw [hx.1]
      exact this
/-- No walk gets through the pairs of a barrier. -/
theorem bar_wy {a b : List S59} {h : Int} {l : List S25} {P : Int → Int → Prop} (hb : BarOK a b h l) (hP : ∀ q ∈ l, ¬ P q.f0 q.f1) : ¬ Wy a b P 0 0 := fun hw => by
 obtain ⟨on, ht⟩ := wy_trk hw
 have hoff : ∀ q ∈ l, ¬ on q.f0 q.f1 := fun q hq ho => hP q hq (ht.ok _ _ ho).2
 have hin : ∀ q ∈ l, (0 ≤ q.f0 ∧ q.f0 < a.length) ∧ (0 ≤ q.f1 ∧ q.f1 < b.length) := fun q hq => (hasP_iff a b _ _).1 ((mem_above a b h q).1 (hb.mem q hq)).1
 have hon : ∀ x y, on x y → (0 ≤ x ∧ x < a.length) ∧ (0 ≤ y ∧ y < b.length) := fun x y ho => (hasP_iff a b _ _).1 (ht.ok x y ho).1
 have hside : ∀ (i : Nat) (p : S25), l[i]? = some p → ∀ y, on p.f0 y → y < p.f1 := fun i => by
  induction i with
  | zero =>
   intro p hp y hy
   have hpm := List.mem_of_getElem? hp
   have h1 := hin p hpm
   have h2 := hon _ _ hy
   refine Classical.byContradiction fun hge => hoff p hpm ?_
   have hbg := hb.beg p hp
   unfold begB at hbg
   rw [Bool.or_eq_true, beq_iff_eq, beq_iff_eq] at hbg
   rcases hbg with hbg | hbg
   · have h0 := ht.at_
     rw [hbg] at hy ⊢
     exact ht.fill 0 0 y p.f1 h0 hy (by omega) (by omega)
   · have : p.f1 = y := by omega
     rw [this]; exact hy
  | succ i ih =>
   intro p hp y hy
   have hpm := List.mem_of_getElem? hp
   have hlt := (List.getElem?_eq_some_iff.1 hp).1
   have hq : l[i]? = some (l[i]'(by omega)) := List.getElem?_eq_getElem (by omega)
   generalize l[i]'(by omega) = q at hq
   have hqm := List.mem_of_getElem? hq
   have h1 := hin p hpm
   have h2 := hon _ _ hy
   have hqin := hin q hqm
   obtain ⟨g1, g2, g3⟩ := (preB_iff q p).1 (hb.nxt i q p hq hp)
   refine Classical.byContradiction fun hge => hoff p hpm ?_
   by_cases e : p.f0 = q.f0 + 1
   · obtain ⟨u, z, k1, k2, k3⟩ := ht.link q.f0 (by omega) (by omega)
     have := ih q hq u k1
     rw [← e] at k2
     exact ht.fill p.f0 z y p.f1 k2 hy (by omega) (by omega)
   · by_cases e2 : p.f0 = q.f0
     · have := ih q hq y (by rw [← e2]; exact hy)
       have e3 : p.f1 = y := by omega
       rw [e3]; exact hy
     · obtain ⟨u, hu⟩ := ht.row q.f0 (by omega) (by omega)
       have k1 := ih q hq u hu
       have k2 := ht.mono p.f0 y q.f0 u hy hu (by omega)
       have e3 : p.f1 = y := by omega
       rw [e3]; exact hy
 have hne := hb.ne
 obtain ⟨p, hp⟩ : ∃ p, l.getLast? = some p := ⟨l.getLast hne, List.getLast?_eq_some_getLast hne⟩
 have hpi : l[l.length - 1]? = some p := by rw [← List.getLast?_eq_getElem?]; exact hp
 have hs := hside _ p hpi
 have hpin := hin p (List.mem_of_getElem? hpi)
 have he := hb.fin p hp
 unfold endB at he
 rw [Bool.or_eq_true, beq_iff_eq, beq_iff_eq] at he
 rcases he with he | he
 · have := hs ((b.length : Int) - 1) (by rw [he]; exact ht.last)
   omega
 · obtain ⟨y, hy⟩ := ht.row p.f0 (by omega) (by omega)
   have := hs y hy
   have := hon _ _ hy
   omega
/-- What walks reach from the first pair, without a wall. -/
inductive Met (w : Nat → Nat → Bool) : Nat → Nat → Prop
 | start : w 0 0 = false → Met w 0 0
 | down (i k : Nat) : Met w i k → w (i + 1) k = false → Met w (i + 1) k
 | right (i k : Nat) : Met w i k → w i (k + 1) = false → Met w i (k + 1)
 | diag (i k : Nat) : Met w i k → w (i + 1) (k + 1) = false → Met w (i + 1) (k + 1)
theorem Met.off {w : Nat → Nat → Bool} {i k : Nat} (h : Met w i k) : w i k = false := by cases h <;> assumption
theorem met_iff (w : Nat → Nat → Bool) (i k : Nat) : Met w i k ↔ w i k = false ∧ ((i = 0 ∧ k = 0) ∨ (0 < i ∧ Met w (i - 1) k) ∨ (0 < k ∧ Met w i (k - 1)) ∨ (0 < i ∧ 0 < k ∧ Met w (i - 1) (k - 1))) := by
 constructor
 · intro h
   refine ⟨h.off, ?_⟩
   cases h with
   | start _ => exact .inl ⟨rfl, rfl⟩
   | down i k h _ => exact .inr (.inl ⟨by omega, h⟩)
   | right i k h _ => exact .inr (.inr (.inl ⟨by omega, h⟩))
   | diag i k h _ => exact .inr (.inr (.inr ⟨by omega, by omega, h⟩))
 · rintro ⟨h0, h⟩
   rcases h with ⟨rfl, rfl⟩ | ⟨h1, h⟩ | ⟨h1, h⟩ | ⟨h1, h2, h⟩
   · exact .start h0
   · obtain ⟨j, rfl⟩ : ∃ j, i = j + 1 := ⟨i - 1, by omega⟩
     exact .down j k h h0
   · obtain ⟨j, rfl⟩ : ∃ j, k = j + 1 := ⟨k - 1, by omega⟩
     exact .right i j h h0
   · obtain ⟨j, rfl⟩ : ∃ j, i = j + 1 := ⟨i - 1, by omega⟩
     obtain ⟨u, rfl⟩ : ∃ u, k = u + 1 := ⟨k - 1, by omega⟩
     exact .diag j u h h0
theorem met_back {a b : List S59} {w : Nat → Nat → Bool} {i k : Nat} (h : Met w i k) (hi : i < a.length) (hk : k < b.length) : Wy a b (fun x y => w x.toNat y.toNat = false) i k → Wy a b (fun x y => w x.toNat y.toNat = false) 0 0 := by
 have hP : ∀ x y : Nat, x < a.length → y < b.length → hasP a b (x : Int) (y : Int) = true := fun x y hx hy => (hasP_iff a b _ _).2 ⟨⟨by omega, by omega⟩, ⟨by omega, by omega⟩⟩
 have ho : ∀ x y : Nat, Met w x y → w ((x : Int)).toNat ((y : Int)).toNat = false := fun x y hm => by rw [Int.toNat_natCast, Int.toNat_natCast]; exact hm.off
 induction h with
 | start _ => exact fun h => h
 | down i k hm h0 ih =>
  intro hw
  refine ih (by omega) hk (.step _ _ ⟨((i + 1 : Nat) : Int), (k : Int)⟩ (hP i k (by omega) hk) (ho i k hm) (mem_moves.2 ⟨hP (i + 1) k hi hk, .inr (.inl rfl)⟩) hw)
 | right i k hm h0 ih =>
  intro hw
  refine ih hi (by omega) (.step _ _ ⟨(i : Int), ((k + 1 : Nat) : Int)⟩ (hP i k hi (by omega)) (ho i k hm) (mem_moves.2 ⟨hP i (k + 1) hi hk, .inr (.inr rfl)⟩) hw)
 | diag i k hm h0 ih =>
  intro hw
  refine ih (by omega) (by omega) (.step _ _ ⟨((i + 1 : Nat) : Int), ((k + 1 : Nat) : Int)⟩ (hP i k (by omega) (by omega)) (ho i k hm) (mem_moves.2 ⟨hP (i + 1) (k + 1) hi hk, .inl rfl⟩) hw)
/-- The wall of a list of pairs. -/
def wallB (l : List S25) (r k : Nat) : Bool := l.any fun q => q.f0 == (r : Int) && q.f1 == (k : Int)
theorem bar_met {a b : List S59} {h : Int} {l : List S25} (hb : BarOK a b h l) (ha : 0 < a.length) (hbb : 0 < b.length) : ¬ Met (wallB l) (a.length - 1) (b.length - 1) := fun hm => by
 have hw := met_back hm (by omega) (by omega) (.last _ _ (by omega) (by omega) ((hasP_iff a b _ _).2 ⟨⟨by omega, by omega⟩, ⟨by omega, by omega⟩⟩) (by rw [Int.toNat_natCast, Int.toNat_natCast]; exact hm.off))
 refine bar_wy hb (fun q hq hP => ?_) hw
 have hqin := (hasP_iff a b _ _).1 ((mem_above a b h q).1 (hb.mem q hq)).1
 unfold wallB at hP
 rw [List.any_eq_false] at hP
 have := hP q hq
 simp only [Bool.and_eq_true, beq_iff_eq] at this
 omega

end Go.Proofs.Ytkocigldchiifaa.H

/- given and listed: lists turned into the reference's. -/
namespace Go.Proofs.Ytkocigldchiifaa.H
open Go.RowKit Go.Proofs.YtkocigldchiifaaW.PrintWords Go.Proofs.YtkocigldchiifaaW.PrintLast Go.Proofs.YtkocigldchiifaaW.PrintMore
open Go.Shelf Go.Proofs.Ytkocigldchiifaa.QA
set_option linter.unusedVariables false
set_option linter.unusedSimpArgs false

/-- A pair, as the reference has it. -/
def pr (q : S25) : S35 := ⟨q.f0, q.f1⟩
theorem cellsP_append' (xs ys : List S25) : cellsP (xs ++ ys) = cellsP xs ++ cellsP ys := by simp [cellsP]
theorem cellsP_one' (xs : List S25) : ∀ u ∈ cellsP xs, u.oneCell' = true := by
 intro u hu
 obtain ⟨x, _, hx⟩ := List.mem_flatMap.1 hu
 simp only [List.mem_cons, List.not_mem_nil, or_false] at hx
 rcases hx with rfl | rfl <;> rfl

/-- An own row of the reference's. -/
def OwnR (W : World) (base : Nat) (v : Value) (xs : List S59) : Prop := W.ownsRow base 79 3 v xs.length (cellsE xs)
theorem OwnR_reps (w : World) (base : Nat) (ok : Nat → Prop) (xs : List S59) : Reps (k79.M w base ok) 3 (xs.map ev) (cellsE xs) := by
 have h : ∀ (ys zs : List S59), Reps (k79.M w base ok) 3 (ys.map ev) (cellsE ys) → Reps (k79.M w base ok) 3 ((ys ++ zs).map ev) (cellsE (ys ++ zs)) := fun ys zs => by
  induction zs generalizing ys with
  | nil => intro h; simpa using h
  | cons z zs ih =>
   intro h
   have := ih (ys ++ [z]) (by
    have h2 := h.snoc (p := ev z) (c := [.int .i64 z.f0, .int .i64 z.f1, .int .i64 z.f2]) (k79_mkM w base ok (ev z)) rfl
    simpa [cellsE] using h2)
   simpa using this
 simpa using h [] xs (Reps.none _ _)
theorem OwnR.R {W : World} {base : Nat} {v : Value} {xs : List S59} (h : OwnR W base v xs) : Kd.R k79 79 W base (fun _ => True) v (xs.map ev) := ⟨fun _ _ => trivial, cellsE xs, by rw [List.length_map]; exact h, OwnR_reps _ _ _ xs⟩
theorem OwnR.below {W W' : World} {base : Nat} {v : Value} {xs : List S59} (h : OwnR W base v xs) (hb : Below W.heap.size W W') : OwnR W' base v xs := by
 obtain ⟨h1, h2⟩ := h
 refine ⟨h1, ?_⟩
 rcases h2 with h2 | ⟨g, cap, cur, h3, h4, h5, h6⟩
 · exact .inl h2
 · exact .inr ⟨g, cap, cur, h3, h4, (hb.block g (Array.getElem?_eq_some_iff.1 h5).1).trans h5, h6⟩
/-- An own row of the reference's. -/
def OwnQ (W : World) (base : Nat) (v : Value) (xs : List S25) : Prop := W.ownsRow base 35 2 v xs.length (cellsP xs)
theorem OwnQ_reps (w : World) (base : Nat) (ok : Nat → Prop) (xs : List S25) : Reps (k35.M w base ok) 2 (xs.map pr) (cellsP xs) := by
 have h : ∀ (ys zs : List S25), Reps (k35.M w base ok) 2 (ys.map pr) (cellsP ys) → Reps (k35.M w base ok) 2 ((ys ++ zs).map pr) (cellsP (ys ++ zs)) := fun ys zs => by
  induction zs generalizing ys with
  | nil => intro h; simpa using h
  | cons z zs ih =>
   intro h
   have := ih (ys ++ [z]) (by
    have h2 := h.snoc (p := pr z) (c := [.int .i64 z.f0, .int .i64 z.f1]) (k35_mkM w base ok (pr z)) rfl
    simpa [cellsP] using h2)
   simpa using this
 simpa using h [] xs (Reps.none _ _)
theorem OwnQ.R {W : World} {base : Nat} {v : Value} {xs : List S25} (h : OwnQ W base v xs) : Kd.R k35 35 W base (fun _ => True) v (xs.map pr) := ⟨fun _ _ => trivial, cellsP xs, by rw [List.length_map]; exact h, OwnQ_reps _ _ _ xs⟩
theorem OwnQ.below {W W' : World} {base : Nat} {v : Value} {xs : List S25} (h : OwnQ W base v xs) (hb : Below W.heap.size W W') : OwnQ W' base v xs := by
 obtain ⟨h1, h2⟩ := h
 refine ⟨h1, ?_⟩
 rcases h2 with h2 | ⟨g, cap, cur, h3, h4, h5, h6⟩
 · exact .inl h2
 · exact .inr ⟨g, cap, cur, h3, h4, (hb.block g (Array.getElem?_eq_some_iff.1 h5).1).trans h5, h6⟩
end Go.Proofs.Ytkocigldchiifaa.H

/- Own rows of pairs, appended to. -/
namespace Go.Proofs.Ytkocigldchiifaa.H
open Go.RowKit Go.Proofs.YtkocigldchiifaaW.PrintWords Go.Proofs.YtkocigldchiifaaW.PrintLast Go.Proofs.YtkocigldchiifaaW.PrintMore
open Go.Shelf Go.Proofs.Ytkocigldchiifaa.QA
set_option linter.unusedVariables false
set_option linter.unusedSimpArgs false

/-- An own row of pairs. -/
def OwnP (W : World) (base : Nat) (v : Value) (xs : List S25) : Prop := W.ownsRow base 25 2 v xs.length (cellsP xs)
theorem OwnP_reps (w : World) (base : Nat) (ok : Nat → Prop) (xs : List S25) : Reps (k25.M w base ok) 2 xs (cellsP xs) := by
 have h : ∀ (ys zs : List S25), Reps (k25.M w base ok) 2 ys (cellsP ys) → Reps (k25.M w base ok) 2 (ys ++ zs) (cellsP (ys ++ zs)) := fun ys zs => by
  induction zs generalizing ys with
  | nil => intro h; simpa using h
  | cons z zs ih =>
   intro h
   have := ih (ys ++ [z]) (by
    have h2 := h.snoc (p := z) (c := [.int .i64 z.f0, .int .i64 z.f1]) (k25_mkM w base ok z) rfl
    simpa [cellsP] using h2)
   simpa using this
 simpa using h [] xs (Reps.none _ _)
theorem OwnP.R {W : World} {base : Nat} {v : Value} {xs : List S25} (h : OwnP W base v xs) : Kd.R k25 25 W base (fun _ => True) v xs := ⟨fun _ _ => trivial, cellsP xs, h, OwnP_reps _ _ _ xs⟩
theorem OwnP.below {W W' : World} {base : Nat} {v : Value} {xs : List S25} (h : OwnP W base v xs) (hb : Below W.heap.size W W') : OwnP W' base v xs := by
 obtain ⟨h1, h2⟩ := h
 refine ⟨h1, ?_⟩
 rcases h2 with h2 | ⟨g, cap, cur, h3, h4, h5, h6⟩
 · exact .inl h2
 · exact .inr ⟨g, cap, cur, h3, h4, (hb.block g (Array.getElem?_eq_some_iff.1 h5).1).trans h5, h6⟩
/-- The row stays as it is where another block is written. -/
theorem OwnP.aside {W : World} {base : Nat} {v : Value} {xs : List S25} (h : OwnP W base v xs) {g j : Nat} {u : Value} (hne : v.ownBlock ≠ some g) : OwnP (W.setCell ⟨g, j, none⟩ u) base v xs := by
 obtain ⟨h1, h2⟩ := h
 refine ⟨h1, ?_⟩
 rcases h2 with h2 | ⟨g', cap, cur, h3, h4, h5, h6⟩
 · exact .inl h2
 · refine .inr ⟨g', cap, cur, h3, h4, (Below.heap_setCell _ _ _ _ (fun e => hne ?_)).trans h5, h6⟩
   have e' : g' = g := e
   rw [h3, ← e']
   rfl
theorem wpList_append_OwnP {ops : Array Oper} {rest : List Oper} {o : Oper} {a : Act} {Q : Exit → Act → World → Prop} {W : World} (hgd : o.guard = none) (s x : Operand)
  (ho : o.op = .call { callee := .builtin .append, args := #[s, x], argTypes := #[38, 38] }) (base : Nat) (v : Value) (xs ys : List S25) (hs : a.eval s = v) (hv : OwnP W base v xs) (ad : Addr) (m c : Nat) (hx : a.eval x = .slice (some ad) m c) (hm : m = ys.length)
  (hc : ∀ j u, (cellsP ys)[j]? = some u → W.cell? (ad.add j) = some u) (hl : xs.length + m ≤ 1000000) (hb : base ≤ W.heap.size)
  (h : ∀ v' w', OwnP w' base v' (xs ++ ys) → Below base W w' → W.grownBy w' v.ownBlock → (v'.ownBlock = v.ownBlock ∨ v'.ownBlock = some W.heap.size) → wpList Try.prog ops Q rest (a.put o.dst v') w') : wpList Try.prog ops Q (o :: rest) a W := by
 obtain ⟨i0, hi, hz0, hz1, hz2⟩ := info_parts info25
 have hM : maxLen = 9223372036854775807 := rfl
 refine wpList_append_own_at _ hgd s x 38 ho base 25 i0 (.agg #[(.int .i64 0), (.int .i64 0)]) 2 16 Try.underlying38 hi hz0 hz1 hz2 rfl (by decide) v xs.length (cellsP xs) hs hv ad m c (cellsP ys) hx (by rw [cellsP_len, hm]) hc (cellsP_one' ys) (by omega) (by omega) hb ?_
 intro v' w' h1 h2 h3 h4
 refine h v' w' ?_ ((Below.refl _ _).grown h2 hb (fun j ej => own_base hv j ej)) h2 (by first | exact h4 | exact h3)
 unfold OwnP
 rw [cellsP_append', List.length_append, ← hm]
 exact h1
end Go.Proofs.Ytkocigldchiifaa.H

/- Walks that are made step by step. -/
namespace Go.Proofs.Ytkocigldchiifaa.H
open Go.RowKit Go.Proofs.YtkocigldchiifaaW.PrintWords Go.Proofs.YtkocigldchiifaaW.PrintLast Go.Proofs.YtkocigldchiifaaW.PrintMore
open Go.Shelf Go.Proofs.Ytkocigldchiifaa.QA
set_option linter.unusedVariables false
set_option linter.unusedSimpArgs false

theorem rd_at {l : List S25} {j : Nat} (hj : j < l.length) : rd_T25 l (j : Int) = l[j] := by
 unfold rd_T25
 rw [Int.toNat_natCast, List.getD_eq_getElem?_getD, List.getElem?_eq_getElem hj]
 rfl
theorem rd_snoc_lt {l : List S25} {p : S25} {j : Nat} (hj : j < l.length) : rd_T25 (l ++ [p]) (j : Int) = rd_T25 l (j : Int) := by
 rw [rd_at hj, rd_at (by rw [List.length_append]; simp; omega), List.getElem_append_left hj]
theorem rd_snoc {l : List S25} {p : S25} : rd_T25 (l ++ [p]) ((l.length : Nat) : Int) = p := by
 rw [rd_at (by simp)]
 simp
/-- The walk so far: it stands at (x, y), its height is top. -/
structure Wlk (a b : List S59) (W : List S25) (x y : Nat) (top : Int) : Prop where
 v : WkV a b W
 len : W.length ≤ x + y + 1
 last : rd_T25 W ((W.length - 1 : Nat) : Int) = ⟨(x : Int), (y : Int)⟩
 top : ∀ g : Int, top ≤ g ↔ ∀ j : Nat, j < W.length → dist a b (rd_T25 W j).f0 (rd_T25 W j).f1 ≤ g
theorem Wlk.start {a b : List S59} (hR : Rolls a b) : Wlk a b [⟨0, 0⟩] 0 0 (dist a b 0 0) := by
 have h0 : ∀ j : Nat, j < ([⟨0, 0⟩] : List S25).length → rd_T25 [⟨0, 0⟩] (j : Int) = ⟨0, 0⟩ := fun j hj => by
  obtain rfl : j = 0 := by simpa using hj
  rfl
 refine ⟨⟨by simp, rfl, fun j hj => by rw [h0 j hj]; exact has0 hR, fun j hj => by simp at hj⟩, by simp, rfl, fun g => ⟨fun h j hj => by rw [h0 j hj]; exact h, fun h => h 0 (by simp)⟩⟩
theorem Wlk.next {a b : List S59} {W : List S25} {x y : Nat} {top : Int} (h : Wlk a b W x y top) {x' y' : Nat} (hx : x' < a.length) (hy : y' < b.length) (h1 : x ≤ x' ∧ x' ≤ x + 1) (h2 : y ≤ y' ∧ y' ≤ y + 1) (h3 : x + y < x' + y') :
  Wlk a b (W ++ [⟨(x' : Int), (y' : Int)⟩]) x' y' (mx top (dist a b x' y')) := by
 have hp := h.v.pos
 have hl : (W ++ [(⟨(x' : Int), (y' : Int)⟩ : S25)]).length = W.length + 1 := by simp
 have hlast : ∀ j : Nat, j < W.length + 1 → ¬ j < W.length → rd_T25 (W ++ [(⟨(x' : Int), (y' : Int)⟩ : S25)]) (j : Int) = ⟨(x' : Int), (y' : Int)⟩ := fun j h1 h2 => by
  obtain rfl : j = W.length := by omega
  exact rd_snoc
 refine ⟨⟨by omega, ?_, fun j hj => ?_, fun j hj => ?_⟩, by have := h.len; omega, ?_, fun g => ?_⟩
 · have := rd_snoc_lt (p := (⟨(x' : Int), (y' : Int)⟩ : S25)) hp
   rw [show ((0 : Nat) : Int) = 0 from rfl] at this
   rw [this]; exact h.v.first
 · rw [hl] at hj
   by_cases hj2 : j < W.length
   · rw [rd_snoc_lt hj2]; exact h.v.has j hj2
   · rw [hlast j hj hj2]; exact (hasP_iff a b _ _).2 (by dsimp only; omega)
 · rw [hl] at hj
   by_cases hj2 : j + 1 < W.length
   · rw [rd_snoc_lt hj2, rd_snoc_lt (by omega)]; exact h.v.step j hj2
   · rw [hlast (j + 1) hj hj2, rd_snoc_lt (by omega), show j = W.length - 1 by omega, h.last]
     unfold stepB isIn
     simp
     omega
 · rw [hl, Nat.add_sub_cancel]; exact rd_snoc
 · rw [mx_le_iff, h.top g, hl]
   constructor
   · rintro ⟨g1, g2⟩ j hj
     by_cases hj2 : j < W.length
     · rw [rd_snoc_lt hj2]; exact g1 j hj2
     · rw [hlast j hj hj2]; exact g2
   · intro g1
     refine ⟨fun j hj => ?_, ?_⟩
     · have := g1 j (by omega)
       rw [rd_snoc_lt hj] at this
       exact this
     · have := g1 W.length (by omega)
       rw [rd_snoc] at this
       exact this
/-- Where the walk has come to the end, its height is what align.Height says. -/
theorem Wlk.done {a b : List S59} (hR : Rolls a b) {W : List S25} {x y : Nat} {top : Int} (h : Wlk a b W x y top) (hx : x + 1 = a.length) (hy : y + 1 = b.length) : htF a b W = (top, 0) ∧ gapI a b ≤ top := by
 have hl : rd_T25 W ((W.length - 1 : Nat) : Int) = ⟨(a.length : Int) - 1, (b.length : Int) - 1⟩ := by
  rw [h.last, S25.mk.injEq]; omega
 have h0 : 0 ≤ top := by
  have := (h.top top).1 (Int.le_refl _) 0 h.v.pos
  rw [show ((0 : Nat) : Int) = 0 from rfl, h.v.first] at this
  replace this : dist a b 0 0 ≤ top := this
  have := dist_in hR (has0 hR)
  omega
 refine ⟨?_, (gap_iff hR top).2 (h.v.way hl ((h.top top).1 (Int.le_refl _)))⟩
 rw [h.v.ht hl, Prod.mk.injEq]
 refine ⟨eq_of_le fun g => ?_, rfl⟩
 rw [htMax_le, h.top g]
 refine ⟨fun hh j hj => hh.2 j (Nat.zero_le _) (by omega), fun hh => ⟨?_, fun j _ hj => hh j (by omega)⟩⟩
 have := (h.top g).2 hh
 omega
theorem ownP_one {W : World} {g base : Nat} {x y : Int} (h : W.heap[g]? = some (.cells #[.int .i64 x, .int .i64 y] 25 (0, 0))) (hb : base ≤ g) : OwnP W base (.slice (some ⟨g, 0, none⟩) 1 1) [⟨x, y⟩] := by
 refine ⟨by simp [cellsP], .inr ⟨g, 1, #[.int .i64 x, .int .i64 y], rfl, hb, h, by simp, by decide, by simp, by simp [cellsP]⟩⟩
theorem blk_set0 {W : World} {B : Nat} {u0 u1 v : Value} {t : TypeId} (h : W.heap[B]? = some (.cells #[u0, u1] t (0, 0))) : (W.setCell ⟨B, 0, none⟩ v).heap[B]? = some (.cells #[v, u1] t (0, 0)) := by
 simp [World.setCell, Array.getElem?_modify, h]
theorem blk_set1 {W : World} {B : Nat} {u0 u1 v : Value} {t : TypeId} (h : W.heap[B]? = some (.cells #[u0, u1] t (0, 0))) : (W.setCell ⟨B, 1, none⟩ v).heap[B]? = some (.cells #[u0, v] t (0, 0)) := by
 simp [World.setCell, Array.getElem?_modify, h]
theorem ownP_ne {W : World} {base g : Nat} {v : Value} {xs : List S25} (h : OwnP W base v xs) (hg : g < base) : v.ownBlock ≠ some g := fun e => by
 have := own_base h g e
 omega
theorem below_set' {g : Nat} {w W : World} {B j : Nat} {v : Value} (h : Below g w W) (hB : g ≤ B) : Below g w (W.setCell ⟨B, j, none⟩ v) := h.setCell (p := ⟨B, j, none⟩) hB v
end Go.Proofs.Ytkocigldchiifaa.H
