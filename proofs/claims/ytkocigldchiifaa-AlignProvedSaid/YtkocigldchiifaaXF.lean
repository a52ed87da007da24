/- Texts HJ, HK, P4, HL of this chapter, one behind the other. -/
import Derived.Carry
import Derived.Deep.LoopGhost
import Derived.LoopIn
import Derived.LoopNIn
import Derived.Maps.AppendAt
import Derived.OwnWalkIn
import Derived.RangeFuncBound
import Derived.RangeFuncBox
import Derived.RangeFuncCalls
import Derived.RangeFuncLeaves
import Derived.RangeFuncNested
import Derived.RangeFuncWrites
import Derived.Shelf.Abstract
import Derived.Shelf.RegionOpen
import Derived.TacticsInMore
import Derived.WalkKit
import Derived.WalkSmall
import Derived.Test.YtkocigldchiifaaQA4
import Derived.Test.YtkocigldchiifaaXB
import Derived.Test.YtkocigldchiifaaXC
import Derived.Test.YtkocigldchiifaaXD
import Derived.Test.YtkocigldchiifaaXE

/- align.Barrier. -/
namespace Go.Proofs.Ytkocigldchiifaa.H
open Go.RowKit Go.Proofs.YtkocigldchiifaaW.PrintWords Go.Proofs.YtkocigldchiifaaW.PrintLast Go.Proofs.YtkocigldchiifaaW.PrintMore
open Go.Shelf Go.Proofs.Ytkocigldchiifaa.QA
attribute [local go_sem] Oper.semAt_some
set_option linter.unusedVariables false
set_option linter.unusedSimpArgs false

/-- The search's cells: the table's box, the map, its box, the queue. -/
structure BrS (g : Nat) (w W : World) (v : Value) (n : Nat) (xs : List S25) (f : Int → Int → Option S25) : Prop where
 below : Below w.heap.size w W
 c8 : W.heap[w.heap.size]? = some (.cells #[.pointer (some ⟨g, 0, none⟩)] 80 (0, 0))
 map : MapF eP W (w.heap.size + 1) n f
 c10 : W.heap[w.heap.size + 2]? = some (.cells #[.map (some (w.heap.size + 1))] 100 (0, 0))
 cq : W.heap[w.heap.size + 3]? = some (.cells #[v] 102 (0, 0))
 row : Tail W (w.heap.size + 4) v xs
section
variable {g : Nat} {w W W' : World} {v v' : Value} {n : Nat} {xs ys : List S25} {f : Int → Int → Option S25}
theorem BrS.quiet (h : BrS g w W v n xs f) (hb : Below W.heap.size W W') : BrS g w W' v n xs f :=
 ⟨h.below.trans (hb.mono h.below.size), blk_below2 hb h.c8, h.map.below hb, blk_below2 hb h.c10, blk_below2 hb h.cq, h.row.below hb⟩
theorem BrS.own (h : BrS g w W v n xs f) (j : Nat) (hj : v.ownBlock = some j) : w.heap.size + 4 ≤ j := (h.row.lt j hj).1
theorem BrS.queue (h : BrS g w W v n xs f) (hq : W'.heap[w.heap.size + 3]? = some (.cells #[v'] 102 (0, 0))) (ht : Tail W' (w.heap.size + 4) v' ys) (hf : Fr W W' (w.heap.size + 3) v.ownBlock) : BrS g w W' v' n ys f := by
 have hne : ∀ j, j < w.heap.size + 4 → some j ≠ v.ownBlock := fun j hj e => by have := h.own j e.symm; omega
 have hlt := blk_lt2 h.cq
 refine ⟨h.below.trans ⟨hf.os, hf.tape, hf.output, hf.size, fun j hj => hf.but j (by omega) (by omega) (hne j (by omega))⟩, ?_, h.map.same (hf.but _ (by omega) (by omega) (hne _ (by omega))), ?_, hq, ht⟩
 · exact (hf.but _ (by omega) (by omega) (hne _ (by omega))).trans h.c8
 · exact (hf.but _ (by omega) (by omega) (hne _ (by omega))).trans h.c10
theorem BrS.put {n' : Nat} {f' : Int → Int → Option S25} (h : BrS g w W v n xs f) (hm : MapF eP W' (w.heap.size + 1) n' f') (hg : W.grownBy W' (some (w.heap.size + 1))) : BrS g w W' v n' xs f' := by
 have hk : ∀ (j : Nat) (o : Obj), W.heap[j]? = some o → j ≠ w.heap.size + 1 → W'.heap[j]? = some o := fun j o ho hne => (hg.block j (blk_lt2 ho) (fun e => hne (Option.some.inj e))).trans ho
 refine ⟨h.below.grown hg h.below.size (fun k e => by have := Option.some.inj e; omega), hk _ _ h.c8 (by omega), hm, hk _ _ h.c10 (by omega), hk _ _ h.cq (by omega), h.row.kept fun j cur hj hc => hk _ _ hc (by have := h.own j hj; omega)⟩
/-- The fence's steps leave it. -/
theorem BrS.grown (h : BrS g w W v n xs f) {row : Option Nat} (hg : W.grownBy W' row) (hr : ∀ r, row = some r → w.heap.size + 4 ≤ r ∧ ∃ o : Obj, W.heap[r]? = some o ∧ o.isCells = false) : BrS g w W' v n xs f := by
 have hk : ∀ (j : Nat) (o : Obj), W.heap[j]? = some o → (j < w.heap.size + 4 ∨ o.isCells = true) → W'.heap[j]? = some o := fun j o ho hc => (hg.block j (blk_lt2 ho) (fun e => by
  obtain ⟨h1, o', h2, h3⟩ := hr j e.symm
  rw [ho] at h2
  cases h2
  rcases hc with hc | hc
  · omega
  · rw [hc] at h3; cases h3)).trans ho
 have hlt := h.map.lt
 refine ⟨h.below.grown hg h.below.size (fun k e => by have := (hr k e).1; omega), hk _ _ h.c8 (by omega), h.map.same (hg.block _ hlt (fun e => by have := (hr _ e.symm).1; omega)), hk _ _ h.c10 (by omega), hk _ _ h.cq (by omega), h.row.kept fun j cur hj hc => hk _ _ hc (.inr rfl)⟩
end
/-- The same with the cells of an iterator beside it. -/
structure It (g : Nat) (w W : World) (Bt Bh : Nat) (hh : Int) (v : Value) (n : Nat) (xs : List S25) (f : Int → Int → Option S25) : Prop where
 s : BrS g w W v n xs f
 t1 : W.heap[Bt]? = some (.cells #[.pointer (some ⟨g, 0, none⟩)] 80 (0, 0))
 t2 : W.heap[Bh]? = some (.cells #[.int .i64 hh] 3 (0, 0))
 l1 : w.heap.size + 4 ≤ Bt
 l2 : w.heap.size + 4 ≤ Bh
theorem map_cells {E : Type} {X : Elem E} {w : World} {b n : Nat} {f : Int → Int → Option E} (h : MapF X w b n f) {cs : Array Value} {t : TypeId} {fr : Nat × Nat} (hc : w.heap[b]? = some (.cells cs t fr)) : False := by
 obtain ⟨D, h1, ⟨es, clock, hb, h2⟩, h3⟩ := h
 rw [hb] at hc
 cases hc
section
variable {g Bt Bh : Nat} {hh : Int} {w W W' : World} {v v' : Value} {n : Nat} {xs ys : List S25} {f : Int → Int → Option S25}
theorem It.sz (h : It g w W Bt Bh hh v n xs f) : w.heap.size + 4 ≤ W.heap.size := by have := blk_lt2 h.s.cq; omega
theorem It.grown (h : It g w W Bt Bh hh v n xs f) {row : Option Nat} (hg : W.grownBy W' row) (hr : ∀ r, row = some r → w.heap.size + 4 ≤ r ∧ ∃ o : Obj, W.heap[r]? = some o ∧ o.isCells = false) : It g w W' Bt Bh hh v n xs f := by
 have hk : ∀ (j : Nat) (o : Obj), W.heap[j]? = some o → o.isCells = true → W'.heap[j]? = some o := fun j o ho hc => (hg.block j (blk_lt2 ho) (fun e => by
  obtain ⟨h1, o', h2, h3⟩ := hr j e.symm
  rw [ho] at h2
  cases h2
  rw [hc] at h3; cases h3)).trans ho
 exact ⟨h.s.grown hg hr, hk _ _ h.t1 rfl, hk _ _ h.t2 rfl, h.l1, h.l2⟩
theorem It.quiet (h : It g w W Bt Bh hh v n xs f) (B : Nat) (hb : Below W.heap.size W W') : (KeepsFrom B W W' ∧ KpA w.heap.size Bt Bh W W') ∧ It g w W' Bt Bh hh v n xs f :=
 ⟨⟨⟨hb.size, fun k o _ hk _ => blk_below2 hb hk⟩, KpA.of_below hb h.s.below.size⟩, h.s.quiet hb, blk_below2 hb h.t1, blk_below2 hb h.t2, h.l1, h.l2⟩
theorem It.put {n' : Nat} {f' : Int → Int → Option S25} (h : It g w W Bt Bh hh v n xs f) (B : Nat) (hB : w.heap.size + 4 ≤ B) (hm : MapF eP W' (w.heap.size + 1) n' f') (hg : W.grownBy W' (some (w.heap.size + 1))) : (KeepsFrom B W W' ∧ KpA w.heap.size Bt Bh W W') ∧ It g w W' Bt Bh hh v n' xs f' := by
 have hk : ∀ (j : Nat) (o : Obj), W.heap[j]? = some o → j ≠ w.heap.size + 1 → W'.heap[j]? = some o := fun j o ho hne => (hg.block j (blk_lt2 ho) (fun e => hne (Option.some.inj e))).trans ho
 have hkc : ∀ (j : Nat) (cs : Array Value) (t : TypeId) (fz : Nat × Nat), W.heap[j]? = some (.cells cs t fz) → W'.heap[j]? = some (.cells cs t fz) := fun j cs t fz ho => hk j _ ho (fun e => by subst e; exact map_cells h.s.map ho)
 exact ⟨⟨⟨hg.size, fun k o hk1 ho _ => hk k o ho (by omega)⟩, ⟨(Below.refl _ _).grown hg h.s.below.size (fun k e => by have := Option.some.inj e; omega), fun cs t fz ho => hkc _ _ _ _ ho, fun cs t fz ho => hkc _ _ _ _ ho⟩⟩, h.s.put hm hg, hkc _ _ _ _ h.t1, hkc _ _ _ _ h.t2, h.l1, h.l2⟩
theorem It.queue (h : It g w W Bt Bh hh v n xs f) (B : Nat) (hB : w.heap.size + 4 ≤ B) (hq : W'.heap[w.heap.size + 3]? = some (.cells #[v'] 102 (0, 0))) (ht : Tail W' (w.heap.size + 4) v' ys) (hf : Fr W W' (w.heap.size + 3) v.ownBlock) : (KeepsFrom B W W' ∧ KpA w.heap.size Bt Bh W W') ∧ It g w W' Bt Bh hh v' n ys f := by
 have hl1 := h.l1
 have hl2 := h.l2
 have e1 : W'.heap[Bt]? = W.heap[Bt]? := hf.but _ (blk_lt2 h.t1) (by omega) (h.s.row.ne h.t1 (fun cur e => by cases e))
 have e2 : W'.heap[Bh]? = W.heap[Bh]? := hf.but _ (blk_lt2 h.t2) (by omega) (h.s.row.ne h.t2 (fun cur e => by cases e))
 have hs := h.s.queue hq ht hf
 refine ⟨⟨⟨hf.size, fun k o hk1 ho hc => (hf.but k (blk_lt2 ho) (by omega) (h.s.row.ne ho (fun cur e => by subst e; cases hc))).trans ho⟩, ⟨⟨hf.os, hf.tape, hf.output, hf.size, fun j hj => hf.but j (by have := h.s.below.size; omega) (by omega) (fun e => by have := h.s.own j e.symm; omega)⟩, fun cs t fz ho => e1.trans ho, fun cs t fz ho => e2.trans ho⟩⟩, hs, e1.trans h.t1, e2.trans h.t2, h.l1, h.l2⟩
end
theorem above_len (a b : List S59) (h : Int) (hR : Rolls a b) : (aboveOf a b h).length ≤ 900 := by
 have h1 : ∀ i m, (abvRow a b h i m).length ≤ m := fun i m => by
  unfold abvRow
  have := List.length_filter_le (fun q : S25 => decide (h < farD (rd_T59 a q.f0) (rd_T59 b q.f1))) ((List.range m).map fun k : Nat => (⟨(i : Int), (k : Int)⟩ : S25))
  simpa using this
 have h2 : ∀ n, (abvTo a b h n).length ≤ n * b.length := fun n => by
  induction n with
  | zero => simp [abvTo]
  | succ n ih =>
   rw [abvTo_succ, List.length_append, Nat.add_mul, Nat.one_mul]
   have := h1 n b.length
   omega
 have h3 := h2 a.length
 have := hR.ha
 have := hR.hb
 have h4 : a.length * b.length ≤ 30 * 30 := Nat.mul_le_mul (by omega) (by omega)
 unfold aboveOf
 omega
theorem Fr.weak {w w' : World} {gq : Nat} (h : Fr w w' gq none) (r : Option Nat) : Fr w w' gq r := ⟨h.os, h.tape, h.output, h.size, fun g h1 h2 _ => h.but g h1 h2 (fun e => by cases e)⟩
/-- (*queue).pop -/
theorem pop_calls (gq base : Nat) (v : Value) (xs : List S25) (w : World) (hq : w.heap[gq]? = some (.cells #[v] 102 (0, 0))) (ht : Tail w base v xs) :
  Calls Try.prog 58 #[.pointer (some ⟨gq, 0, none⟩)] w fun e w' => e = .returned (.tuple #[.agg #[.int .i64 (xs.headD ⟨0, 0⟩).f0, .int .i64 (xs.headD ⟨0, 0⟩).f1], .bool (!xs.isEmpty)]) ∧ ∃ v', w'.heap[gq]? = some (.cells #[v'] 102 (0, 0)) ∧ Tail w' base v' xs.tail ∧ Fr w w' gq none ∧ v'.ownBlock = v.ownBlock := by
 cases xs with
 | nil =>
  have hA : ∃ A c, v = .slice A 0 c := by
   rcases ht with ⟨rfl, _⟩ | ⟨g, off, cap, cur, rfl, _⟩
   · exact ⟨_, _, rfl⟩
   · exact ⟨_, _, rfl⟩
  obtain ⟨A, c, rfl⟩ := hA
  refine (pop_none gq A c w hq).mono ?_
  rintro e w' ⟨rfl, hb⟩
  exact ⟨rfl, _, blk_below2 hb hq, ht.below hb, ⟨hb.os, hb.tape, hb.output, hb.size, fun g hg _ _ => hb.block g hg⟩, rfl⟩
 | cons x xs =>
  obtain ⟨g, off, cap, rfl⟩ := tail_some ht (by simp)
  refine (pop_some gq base g off cap x xs w hq ht).mono ?_
  rintro e w' ⟨rfl, v', h1, h2, h3, h4⟩
  exact ⟨rfl, v', h1, h2, h3, h4⟩
/-- The search's state at its loop's head: d pairs have been looked at, the next one lies in box Bp. -/
structure Ls (a b : List S59) (hh : Int) (g : Nat) (w W : World) (Bp : Nat) (v : Value) (n k : Nat) (ps : List S25) (d : Nat) (f : Int → Int → Option S25) (ds : List Deferred) : Prop where
 s : BrS g w W v n (ps.drop (d + 1)) f
 bp : W.heap[Bp]? = some (.cells #[.int .i64 (ps.getD d ⟨0, 0⟩).f0, .int .i64 (ps.getD d ⟨0, 0⟩).f1] 25 (0, 0))
 lo : w.heap.size + 4 ≤ Bp
 ne : some Bp ≠ v.ownBlock
 bf : Bf a b hh k ps f
 cap : n ≤ ps.length
 dl : d ≤ ps.length
 beg : ∀ q ∈ aboveOf a b hh, begB a b q.f0 q.f1 = true → q ∈ ps
 cl : ∀ j, j < d → ∀ p, ps[j]? = some p → endB a b p.f0 p.f1 = false ∧ ∀ q ∈ aboveOf a b hh, preB p q = true → q ∈ ps
 mks : Marks w.heap.size ds W
theorem head_drop (ps : List S25) (d : Nat) : (ps.drop d).headD ⟨0, 0⟩ = ps.getD d ⟨0, 0⟩ := by
 rw [List.headD_eq_head?_getD, List.head?_drop, List.getD_eq_getElem?_getD]
theorem tail_drop (ps : List S25) (d : Nat) : (ps.drop d).tail = ps.drop (d + 1) := by
 rw [List.tail_drop]
theorem empty_drop (ps : List S25) (d : Nat) : (!(ps.drop d).isEmpty) = decide (d < ps.length) := by
 by_cases h : d < ps.length
 · rw [decide_eq_true h, List.drop_eq_getElem_cons h]; rfl
 · rw [decide_eq_false h, List.drop_eq_nil_of_le (by omega)]; rfl
theorem pop_at (gq base : Nat) (v : Value) (ps : List S25) (d : Nat) (w : World) (hq : w.heap[gq]? = some (.cells #[v] 102 (0, 0))) (ht : Tail w base v (ps.drop d)) :
  Calls Try.prog 58 #[.pointer (some ⟨gq, 0, none⟩)] w fun e w' => e = .returned (.tuple #[.agg #[.int .i64 (ps.getD d ⟨0, 0⟩).f0, .int .i64 (ps.getD d ⟨0, 0⟩).f1], .bool (decide (d < ps.length))]) ∧ ∃ v', w'.heap[gq]? = some (.cells #[v'] 102 (0, 0)) ∧ Tail w' base v' (ps.drop (d + 1)) ∧ Fr w w' gq none ∧ v'.ownBlock = v.ownBlock := by
 have h := pop_calls gq base v (ps.drop d) w hq ht
 rw [head_drop, tail_drop, empty_drop] at h
 exact h
theorem Marks.fr {n₀ gq : Nat} {r : Option Nat} {ds : List Deferred} {W W' : World} {cs : Array Value} {t : TypeId} {fz : Nat × Nat} (h : Marks n₀ ds W) (hq : W.heap[gq]? = some (.cells cs t fz)) (hr : ∀ j, r = some j → ∃ cs t fz, W.heap[j]? = some (.cells cs t fz)) (hf : Fr W W' gq r) : Marks n₀ ds W' :=
 h.mono' fun d hd D he h5 => (hf.but D (blk_lt2 h5) (fun e => by subst e; rw [hq] at h5; cases h5) (fun e => by obtain ⟨cs, t, fz, h6⟩ := hr D e.symm; rw [h6] at h5; cases h5)).trans h5
theorem own_kept {W W' : World} {base : Nat} {e : TypeId} {sz n : Nat} {v : Value} {xs : List Value} (h : W.ownsRow base e sz v n xs) (hk : ∀ (j : Nat) (o : Obj), v.ownBlock = some j → W.heap[j]? = some o → W'.heap[j]? = some o) : W'.ownsRow base e sz v n xs := by
 obtain ⟨h1, h2⟩ := h
 refine ⟨h1, ?_⟩
 rcases h2 with h2 | ⟨g, cap, cur, h3, h4, h5, h6⟩
 · exact .inl h2
 · exact .inr ⟨g, cap, cur, h3, h4, hk g _ (by rw [h3]; rfl) h5, h6⟩
theorem own_rv {W : World} {base : Nat} {v : Value} {xs : List S25} (hx : xs ≠ []) (h : W.ownsRow base 25 2 v xs.length (cellsW xs)) : ∃ g cap, v = .slice (some ⟨g, 0, none⟩) xs.length cap ∧ base ≤ g ∧ xs.length ≤ cap ∧ cap ≤ maxLen ∧ Rv W g cap xs := by
 rcases h.2 with ⟨_, h0⟩ | ⟨g, cap, cur, h3, h4, h5, h6, h7, h8, h9⟩
 · exact absurd (List.eq_nil_of_length_eq_zero h0) hx
 · exact ⟨g, cap, h3, h4, h6, h7, cur, h5, h8, h9⟩
theorem rv_own {W : World} {base g cap : Nat} {xs : List S25} (h : Rv W g cap xs) (hg : base ≤ g) (hc : xs.length ≤ cap) (hm : cap ≤ maxLen) : W.ownsRow base 25 2 (.slice (some ⟨g, 0, none⟩) xs.length cap) xs.length (cellsW xs) := by
 obtain ⟨cur, h1, h2, h3⟩ := h
 exact ⟨cellsP_len xs, .inr ⟨g, cap, cur, rfl, hg, h1, hc, hm, h2, h3⟩⟩
theorem Bk.opened {a b : List S59} {f : Int → Int → Option S25} {p p' : S25} {rest : List S25} (h : Bk a b f p (p' :: rest)) : ∃ q, f p.f0 p.f1 = some q ∧ ((q = p ∧ rest = []) ∨ (q ≠ p ∧ Bk a b f q rest)) := by
 cases h with
 | beg _ h1 h2 => exact ⟨_, h1, .inl ⟨rfl, rfl⟩⟩
 | step _ q _ h1 h2 h3 h4 => exact ⟨q, h1, .inr ⟨h2, h4⟩⟩
theorem Bk.cons {a b : List S59} {f : Int → Int → Option S25} {p : S25} {l : List S25} (h : Bk a b f p l) : ∃ tl, l = p :: tl := by
 cases h with
 | beg _ h1 h2 => exact ⟨_, rfl⟩
 | step _ q l h1 h2 h3 h4 => exact ⟨_, rfl⟩
/-- The way back, half told. -/
structure Os (a b : List S59) (w W : World) (Bp : Nat) (vo : Value) (n : Nat) (L dn : List S25) (q : S25) (rest : List S25) (f : Int → Int → Option S25) (ds : List Deferred) : Prop where
 below : Below w.heap.size w W
 map : MapF eP W (w.heap.size + 1) n f
 c10 : W.heap[w.heap.size + 2]? = some (.cells #[.map (some (w.heap.size + 1))] 100 (0, 0))
 bp : W.heap[Bp]? = some (.cells #[.int .i64 q.f0, .int .i64 q.f1] 25 (0, 0))
 row : W.ownsRow (w.heap.size + 4) 25 2 vo (dn ++ [q]).length (cellsW (dn ++ [q]))
 ne : some Bp ≠ vo.ownBlock
 bk : Bk a b f q (q :: rest)
 all : dn ++ (q :: rest) = L
 mks : Marks w.heap.size ds W
theorem two_set {W : World} {B : Nat} {u0 u1 v0 v1 : Value} {t : TypeId} (h : W.heap[B]? = some (.cells #[u0, u1] t (0, 0))) : ((W.setCell ⟨B, 0, none⟩ v0).setCell ⟨B, 1, none⟩ v1).heap[B]? = some (.cells #[v0, v1] t (0, 0)) := by
 simp [World.setCell, Array.getElem?_modify, h]
theorem two_ne {W : World} {B : Nat} (v0 v1 : Value) {k : Nat} (h : k ≠ B) : ((W.setCell ⟨B, 0, none⟩ v0).setCell ⟨B, 1, none⟩ v1).heap[k]? = W.heap[k]? := (Below.heap_setCell _ _ _ _ h).trans (Below.heap_setCell _ _ _ _ h)
def bar16_T : Bool × List (List Nat × List Nat) := (true, [([], []), ([], []), ([0, 1], [0, 1]), ([], []), ([2, 3], [2, 3])])
def bar16_B : List Nat := [0, 0, 3, 0, 15]
theorem bar16_tab : rtab .any (opsOf Try.f26 16) = bar16_T := by kernel_rfl
theorem bar16_bits : waitsOk bar16_T.2 bar16_B = true := by kernel_rfl
/-- The state of the second search's range: ps has been met at its start, ps' by now. -/
structure I2 (a b : List S59) (hh : Int) (g : Nat) (w W : World) (Bt Bh Bp : Nat) (v : Value) (n k : Nat) (ps ps' : List S25) (d : Nat) (p : S25) (f : Int → Int → Option S25) (ds : List Deferred) : Prop where
 s : It g w W Bt Bh hh v n (ps'.drop (d + 1)) f
 bf : Bf a b hh k ps' f
 cap : n ≤ ps'.length
 pre : ∃ t, ps' = ps ++ t
 bp : W.heap[Bp]? = some (.cells #[.int .i64 p.f0, .int .i64 p.f1] 25 (0, 0))
 ne : some Bp ≠ v.ownBlock
 mks : Marks w.heap.size ds W
theorem I2.quiet {a b : List S59} {hh : Int} {g : Nat} {w W W' : World} {Bt Bh Bp : Nat} {v : Value} {n k : Nat} {ps ps' : List S25} {d : Nat} {p : S25} {f : Int → Int → Option S25} {ds : List Deferred} (h : I2 a b hh g w W Bt Bh Bp v n k ps ps' d p f ds) (B : Nat) (hb : Below W.heap.size W W') :
  (KeepsFrom B W W' ∧ KpA w.heap.size Bt Bh W W') ∧ I2 a b hh g w W' Bt Bh Bp v n k ps ps' d p f ds := by
 obtain ⟨h1, h2⟩ := h.s.quiet B hb
 exact ⟨h1, h2, h.bf, h.cap, h.pre, blk_below2 hb h.bp, h.ne, h.mks.below hb⟩
theorem BrS.set2 {g : Nat} {w W : World} {v : Value} {n : Nat} {xs : List S25} {f : Int → Int → Option S25} (h : BrS g w W v n xs f) {B : Nat} (hB : w.heap.size + 4 ≤ B) (hne : some B ≠ v.ownBlock) (u0 u1 : Value) : BrS g w ((W.setCell ⟨B, 0, none⟩ u0).setCell ⟨B, 1, none⟩ u1) v n xs f :=
 ⟨h.below.trans (((Below.refl _ W).setCell (p := ⟨B, 0, none⟩) (by show w.heap.size ≤ B; omega) u0).setCell (p := ⟨B, 1, none⟩) (by show w.heap.size ≤ B; omega) u1), (two_ne _ _ (by omega)).trans h.c8, h.map.same (two_ne _ _ (by omega)), (two_ne _ _ (by omega)).trans h.c10, (two_ne _ _ (by omega)).trans h.cq,
  h.row.kept fun j cur hj hc => (two_ne _ _ (fun e => hne (by rw [hj, e]))).trans hc⟩
/-- What the search has come to. -/
def BarRes (a b : List S59) (hh : Int) (w0 : World) (e : Ending) (w' : World) : Prop :=
 Below w0.heap.size w0 w' ∧ ((∃ v l, e = .returned (.tuple #[v, .int .i64 0]) ∧ Kd.R k25 25 w' w0.heap.size (fun _ => True) v l ∧ BarOK a b hh l ∧ l.length ≤ 1800) ∨
  (e = .returned (.tuple #[.slice none 0 0, .int .i64 8]) ∧ ∀ p, Chn a b hh p → endB a b p.f0 p.f1 = false))
attribute [local go_sem high] eqA25
set_option maxRecDepth 100000 in
set_option maxHeartbeats 4000000 in
theorem barrier_ok (A0 : Option Addr) (c0 : Nat) (a : List S59) (A1 : Option Addr) (c1 : Nat) (b : List S59) (hh : Int) (w0 : World) (hr0 : Kd.C k59 w0 A0 a.length a) (hc0 : a.length ≤ c0) (hr1 : Kd.C k59 w0 A1 b.length b) (hc1 : b.length ≤ c1) (he : align_Check.f a b = some 0) :
  Calls Try.prog 26 #[.slice A0 a.length c0, .slice A1 b.length c1, .int .i64 hh] w0 (BarRes a b hh w0) := by
 have hu25 := Try.underlying25
 have HR := Aside0.mk (rolls_of he)
 have HR0 := Aside0.mk hr0
 have HR1 := Aside0.mk hr1
 have HE := Aside0.mk he
 have HC := Aside0.mk (And.intro hc0 hc1)
 clear hr0 hr1 he hc0 hc1
 have hmm := @run_makeMap Try.prog
 refine calls_of_wp_marks Try.func26 rfl ?_
 simp only [Try.ntmps26, List.size_toArray, List.length_cons, List.length_nil, Nat.reduceAdd, Nat.reduceSub, Array.replicate_succ, Array.replicate_zero, List.push_toArray, List.append_toArray, List.nil_append, List.cons_append]
 go_wp2_with fail
 refine (newTable_ok A0 c0 a A1 c1 b _ HR0.out HC.out.1 HR1.out HC.out.2 HE.out).mono ?_
 rintro e w ⟨g, rfl, hT, _, hb⟩
 have HB0 := Aside0.mk hb
 have HT := Aside0.mk hT
 clear hb hT
 go_wp2_with (go_at_call 55; refine (callsIn_wide.1 (above_in 3 g hh _)).mono ?_; rintro e w2 ⟨rfl, rfl⟩)
 have hS0 : BrS g w ((((w.alloc (Obj.cells #[Value.pointer (some ⟨g, 0, none⟩)] 80)).alloc (Obj.map #[] 0)).alloc (Obj.cells #[Value.map (some (w.heap.size + 1))] 100)).alloc (Obj.cells #[Value.slice none 0 0] 102)) (.slice none 0 0) 0 [] (fun _ _ => none) := by
  have b1 := blk_alloc (blk_alloc (blk_alloc (blk_new w (Obj.cells #[Value.pointer (some ⟨g, 0, none⟩)] 80)) (Obj.map #[] 0)) (Obj.cells #[Value.map (some (w.heap.size + 1))] 100)) (Obj.cells #[Value.slice none 0 0] 102)
  have b3 := blk_alloc (blk_new ((w.alloc (Obj.cells #[Value.pointer (some ⟨g, 0, none⟩)] 80)).alloc (Obj.map #[] 0)) (Obj.cells #[Value.map (some (w.heap.size + 1))] 100)) (Obj.cells #[Value.slice none 0 0] 102)
  have b4 := blk_new (((w.alloc (Obj.cells #[Value.pointer (some ⟨g, 0, none⟩)] 80)).alloc (Obj.map #[] 0)).alloc (Obj.cells #[Value.map (some (w.heap.size + 1))] 100)) (Obj.cells #[Value.slice none 0 0] 102)
  have b2 := MapF.made (X := eP) (w.alloc (Obj.cells #[Value.pointer (some ⟨g, 0, none⟩)] 80))
  simp only [World.size_alloc] at b2 b3 b4
  exact ⟨below_alloc (below_alloc (below_alloc (below_alloc (Below.refl _ _) _) _) _) _, b1, b2.below (below_alloc (below_alloc (Below.refl _ _) _) _), b3, b4, .inl ⟨rfl, rfl⟩⟩
 have hS : It g w ((((((w.alloc (Obj.cells #[Value.pointer (some ⟨g, 0, none⟩)] 80)).alloc (Obj.map #[] 0)).alloc (Obj.cells #[Value.map (some (w.heap.size + 1))] 100)).alloc (Obj.cells #[Value.slice none 0 0] 102)).alloc (Obj.cells #[Value.pointer (some ⟨g, 0, none⟩)] 80)).alloc (Obj.cells #[Value.int IntKind.i64 hh] 3)) (w.heap.size + 4) (w.heap.size + 4 + 1) hh (.slice none 0 0) 0 [] (fun _ _ => none) := by
  have b5 := blk_alloc (blk_new ((((w.alloc (Obj.cells #[Value.pointer (some ⟨g, 0, none⟩)] 80)).alloc (Obj.map #[] 0)).alloc (Obj.cells #[Value.map (some (w.heap.size + 1))] 100)).alloc (Obj.cells #[Value.slice none 0 0] 102)) (Obj.cells #[Value.pointer (some ⟨g, 0, none⟩)] 80)) (Obj.cells #[Value.int IntKind.i64 hh] 3)
  have b6 := blk_new (((((w.alloc (Obj.cells #[Value.pointer (some ⟨g, 0, none⟩)] 80)).alloc (Obj.map #[] 0)).alloc (Obj.cells #[Value.map (some (w.heap.size + 1))] 100)).alloc (Obj.cells #[Value.slice none 0 0] 102)).alloc (Obj.cells #[Value.pointer (some ⟨g, 0, none⟩)] 80)) (Obj.cells #[Value.int IntKind.i64 hh] 3)
  simp only [World.size_alloc] at b5 b6
  exact ⟨hS0.quiet (below_alloc (below_alloc (Below.refl _ _) _) _), b5, b6, by omega, by omega⟩
 have hsl : ((((((w.alloc (Obj.cells #[Value.pointer (some ⟨g, 0, none⟩)] 80)).alloc (Obj.map #[] 0)).alloc (Obj.cells #[Value.map (some (w.heap.size + 1))] 100)).alloc (Obj.cells #[Value.slice none 0 0] 102)).alloc (Obj.cells #[Value.pointer (some ⟨g, 0, none⟩)] 80)).alloc (Obj.cells #[Value.int IntKind.i64 hh] 3)).heap.size = w.heap.size + 6 := by simp
 generalize ((((((w.alloc (Obj.cells #[Value.pointer (some ⟨g, 0, none⟩)] 80)).alloc (Obj.map #[] 0)).alloc (Obj.cells #[Value.map (some (w.heap.size + 1))] 100)).alloc (Obj.cells #[Value.slice none 0 0] 102)).alloc (Obj.cells #[Value.pointer (some ⟨g, 0, none⟩)] 80)).alloc (Obj.cells #[Value.int IntKind.i64 hh] 3)) = wl at hS hsl ⊢
 have HS := Aside0.mk hS
 clear hS0 hS
 refine (wpIn_wide (n := 3)).1 ?_
 refine wpIn_rangeFunc_ownH rfl (by omega) (gf := 76) (lb := #[.pointer (some ⟨w.heap.size + 4, 0, none⟩), .pointer (some ⟨w.heap.size + 4 + 1, 0, none⟩)]) rfl trivial (enters_of Try.func76 (by kernel_rfl) rfl)
  (above_stops _ (by omega) (w.heap.size + 4) (w.heap.size + 4 + 1) g w.heap.size a b hh HR.out wl HS.out.t1 HS.out.t2 (fun W' hb => HT.out.below (HS.out.s.below.trans hb)) (by omega)) KpA.trans' (KpA.putObj (by omega)) (Below.refl _ _) (fun _ => rfl)
  (fun pre W => ∃ (v : Value) (n : Nat) (ps : List S25) (f : Int → Int → Option S25), It g w W (w.heap.size + 4) (w.heap.size + 4 + 1) hh v n ps f ∧ Bf a b hh ps.length ps f ∧ n ≤ ps.length ∧ ps.length ≤ pre.length ∧ (∀ y z e, f y z = some e → e = ⟨y, z⟩) ∧ (∀ q ∈ pre, begB a b q.1.f0 q.1.f1 = true → q.1 ∈ ps))
  (fun _ _ _ => False)
  (fun pre X Y row hs hg hr => by
   obtain ⟨v, n, ps, f, h1, h2⟩ := hs
   exact ⟨v, n, ps, f, h1.grown hg (fun r e => by obtain ⟨h3, h4⟩ := hr r e; exact ⟨by omega, h4⟩), h2⟩)
  (fun _ _ _ _ _ hs _ _ => hs)
  ⟨.slice none 0 0, 0, [], fun _ _ => none, HS.out, Bf.start a b hh, by simp, by simp, fun y z e h => (by cases h), fun q hq => (by cases hq)⟩
  (fun x a' W => ∃ (u : Nat → Value) (Bq : Nat), a' = { tmps := #[u 0, u 1, .int .i64 hh, u 3, u 4, u 5, u 6, u 7, .pointer (some ⟨w.heap.size, 0, none⟩), u 9, .pointer (some ⟨w.heap.size + 2, 0, none⟩), .pointer (some ⟨w.heap.size + 3, 0, none⟩), .pointer (some ⟨Bq, 0, none⟩), u 13, u 14, u 15, u 16, u 17, u 18, u 19, u 20, u 21, u 22, u 23, u 24, u 25, u 26, u 27, u 28, u 29, u 30, u 31, u 32, u 33, u 34, u 35, u 36, u 37, u 38, u 39, u 40, u 41, u 42, u 43, u 44, u 45, u 46, u 47, u 48, u 49, u 50, u 51, u 52, u 53, u 54, u 55, u 56, u 57, u 58, u 59, u 60, u 61, u 62, u 63, u 64, u 65, u 66, u 67, u 68, u 69, u 70, u 71, u 72, u 73, u 74, u 75, u 76, u 77, u 78, u 79, u 80, u 81, u 82, u 83, u 84, u 85, u 86, u 87, u 88, u 89, u 90, u 91, u 92], defers := [] } ∧ W.heap[Bq]? = some (.cells #[.int .i64 x.1.f0, .int .i64 x.1.f1] 25 (0, 0)))
  (fun x a' _ X Y row hs hg hr => by
   obtain ⟨u, Bq, h1, h2⟩ := hs
   exact ⟨u, Bq, h1, (hg.block Bq (blk_lt2 h2) (fun e => by obtain ⟨_, o, ho, hc⟩ := hr Bq e.symm; rw [h2] at ho; cases ho; cases hc)).trans h2⟩) ?assign1 ?body1 ?done1 ?stop1
 case stop1 =>
  rintro D c pre W _ _ h _
  exact h.elim
 case assign1 =>
  intro l pre x W K hI hK
  gi_wp2
  obtain ⟨v, n, ps, f, h1, h2⟩ := hI
  obtain ⟨⟨k1, k2⟩, k3⟩ := h1.quiet wl.heap.size (below_alloc (Below.refl W.heap.size W) (Obj.cells #[Value.int IntKind.i64 x.1.f0, Value.int IntKind.i64 x.1.f1] 25))
  exact hK _ _ k1 k2 ⟨v, n, ps, f, k3, h2⟩ ⟨fun k => ([_, _, undef, _, _, _, _, _, undef, _, undef, undef, undef, _, _, _, _, _, _, _, _, _, _, _, _, _, _, _, _, _, _, _, _, _, _, _, _, _, _, _, _, _, _, _, _, _, _, _, _, _, _, _, _, _, _, _, _, _, _, _, _, _, _, _, _, _, _, _, _, _, _, _, _, _, _, _, _, _, _, _, _, _, _, _, _, _, _, _, _, _, _, _, _] : List Value).getD k undef, _, rfl, blk_new _ _⟩
 case body1 =>
  rintro l pre x a' W hl _ hI ⟨u, Bq, rfl, hq⟩ hlt
  obtain ⟨v, n, ps, f, hS1, hBf, hn, hlen, hid, hbg⟩ := hI
  dsimp only
  have hxa := (mem_above a b hh x.1).1 x.2
  have hxp := (hasP_iff a b _ _).1 hxa.1
  have hin : inr x.1.f0 x.1.f1 := ⟨⟨by omega, by have := HR.out.ha; omega⟩, ⟨by omega, by have := HR.out.hb; omega⟩⟩
  have HTW := Aside0.mk (HT.out.below hS1.s.below)
  have c8 : W.cell? ⟨w.heap.size, 0, none⟩ = some (.pointer (some ⟨g, 0, none⟩)) := (blk_cell hS1.s.c8 0).trans rfl
  have c120 : W.cell? ⟨Bq, 0, none⟩ = some (.int .i64 x.1.f0) := (blk_cell hq 0).trans rfl
  have c121 : W.cell? ⟨Bq, 1, none⟩ = some (.int .i64 x.1.f1) := (blk_cell hq 1).trans rfl
  have hfew : ps.length < 900 := by have := above_len a b hh HR.out; omega
  have HS1 := Aside0.mk hS1
  have HBF := Aside0.mk (And.intro hBf (And.intro hid hbg))
  have HQ := Aside0.mk hq
  have HIN := Aside0.mk (And.intro hin (And.intro hxa hxp))
  have HLN := Aside0.mk (And.intro hn (And.intro hlen hlt))
  clear hS1 hBf hid hbg hq hin hxa hxp hn hlen hlt
  generalize hz : begB a b x.1.f0 x.1.f1 = z
  have HZ := Aside0.mk hz
  cases z with
  | false =>
   gi_wp2_with (refine ⟨trivial, ?_⟩; gi_at_call 56; refine (callsIn_round (begins_calls g a b _ _ _ HTW.out)).mono ?_; rintro e w2 ⟨rfl, hb2⟩; rw [HZ.out]; have HB2 := Aside0.mk hb2; clear hb2)
   obtain ⟨kk, hS2⟩ := HS1.out.quiet wl.heap.size HB2.out
   refine ⟨kk.1, kk.2, v, n, ps, f, hS2, HBF.out.1, HLN.out.1, by have := HLN.out.2.1; simp; omega, HBF.out.2.1, fun q hq hz' => ?_⟩
   rcases List.mem_append.1 hq with hq | hq
   · exact HBF.out.2.2 q hq hz'
   · rw [List.mem_singleton.1 hq, HZ.out] at hz'; cases hz'
  | true =>
   gi_wp2_with (first | (refine ⟨trivial, ?_⟩; gi_at_call 56; refine (callsIn_round (begins_calls g a b _ _ _ HTW.out)).mono ?_; rintro e w2 ⟨rfl, hb2⟩; rw [HZ.out]; obtain ⟨kk2, hS2⟩ := HS1.out.quiet wl.heap.size hb2; have hq2 := blk_below2 hb2 HQ.out; obtain ⟨w3, hrun, hM3, hg3⟩ := hS2.s.map.put und100 (by have := HLN.out; unfold maxLen; omega) HIN.out.1 x.1; have hrun' : (Instr.mapUpdate 100 (.map (some (w.heap.size + 1))) (.agg #[.int .i64 x.1.f0, .int .i64 x.1.f1]) (.agg #[.int .i64 x.1.f0, .int .i64 x.1.f1])).run Try.prog w2 = .ok () w3 := hrun; clear hrun; obtain ⟨kk3, hS3⟩ := hS2.put wl.heap.size (by omega) hM3 hg3; have d10 : w2.cell? ⟨w.heap.size + 2, 0, none⟩ = some (.map (some (w.heap.size + 1))) := (blk_cell hS2.s.c10 0).trans rfl; have d120 : w2.cell? ⟨Bq, 0, none⟩ = some (.int .i64 x.1.f0) := (blk_cell hq2 0).trans rfl; have d121 : w2.cell? ⟨Bq, 1, none⟩ = some (.int .i64 x.1.f1) := (blk_cell hq2 1).trans rfl; have hq3 := (hg3.block Bq (blk_lt2 hq2) (fun e => map_cells hS2.s.map (Option.some.inj e ▸ hq2))).trans hq2; have e120 : w3.cell? ⟨Bq, 0, none⟩ = some (.int .i64 x.1.f0) := (blk_cell hq3 0).trans rfl; have e121 : w3.cell? ⟨Bq, 1, none⟩ = some (.int .i64 x.1.f1) := (blk_cell hq3 1).trans rfl; have KK := Aside0.mk (And.intro kk2 kk3); have HS3 := Aside0.mk hS3; clear kk2 hS2 hq2 kk3 hS3 hM3 hg3 hq3 hb2) | (refine ⟨trivial, ?_⟩; gi_at_call 57; refine (callsIn_round (push_calls (w.heap.size + 3) (w.heap.size + 4) v ps x.1 w3 HS3.out.s.cq HS3.out.s.row HS3.out.sz (by omega))).mono ?_; rintro e w4 ⟨⟨u, rfl⟩, v', hq4, ht4, hf4, hat4⟩))
   obtain ⟨kk4, hS4⟩ := HS3.out.queue wl.heap.size (by omega) hq4 ht4 hf4
   obtain ⟨hb5, hid5⟩ := HBF.out.1.push0 HBF.out.2.1 hfew x.2 HZ.out
   refine ⟨KK.out.1.1.trans (KK.out.2.1.trans kk4.1), KpA.trans' KK.out.1.2 (KpA.trans' KK.out.2.2 kk4.2), v', n + 1, ps ++ [x.1], upd f x.1.f0 x.1.f1 x.1, hS4, hb5, by have := HLN.out.1; simp; omega, by have := HLN.out.2.1; simp; omega, hid5, fun q hq hz' => ?_⟩
   rcases List.mem_append.1 hq with hq | hq
   · exact List.mem_append_left _ (HBF.out.2.2 q hq hz')
   · rw [List.mem_singleton.1 hq]; exact List.mem_append_right _ (by simp)
 case done1 =>
  rintro D ys W hD hys hI hDf
  obtain ⟨v, n, ps, f, hS1, hBf, hn, hlen, hid, hbg⟩ := hI
  have hbeg : ∀ q ∈ aboveOf a b hh, begB a b q.f0 q.f1 = true → q ∈ ps := fun q hq hz => by
   rw [← hys] at hq
   obtain ⟨y, hy, rfl⟩ := List.mem_map.1 hq
   exact hbg y hy hz
  have hyl : ys.length ≤ 900 := by
   have := above_len a b hh HR.out
   rw [← hys, List.length_map] at this
   exact this
  have HS1 := Aside0.mk hS1.s
  have HBF := Aside0.mk (And.intro hBf (And.intro hbeg hn))
  have HDF := Aside0.mk hDf
  clear hS1 hBf hid hbg hbeg hDf hys
  dsimp only
  go_wp2_with (go_at_call 58; refine (pop_at (w.heap.size + 3) (w.heap.size + 4) v ps 0 W HS1.out.cq HS1.out.row).mono ?_; rintro e w2 ⟨rfl, v', hq2, ht2, hf2, ho2⟩; have HQ2 := Aside0.mk (And.intro hq2 (And.intro ht2 (And.intro hf2 ho2))); clear hq2 ht2 hf2 ho2)
  have hS2 := HS1.out.queue HQ2.out.1 HQ2.out.2.1 (HQ2.out.2.2.1.weak _)
  have hbb := below_alloc (Below.refl w2.heap.size w2) (.cells #[.int .i64 (ps.getD 0 ⟨0, 0⟩).f0, .int .i64 (ps.getD 0 ⟨0, 0⟩).f1] 25)
  have hbp := blk_new w2 (.cells #[.int .i64 (ps.getD 0 ⟨0, 0⟩).f0, .int .i64 (ps.getD 0 ⟨0, 0⟩).f1] 25)
  have hD2 : w2.heap[D]? = some (.deferred (some [])) := (HQ2.out.2.2.1.but D (blk_lt2 HDF.out) (by omega) (fun e => by cases e)).trans HDF.out
  have hlo : w.heap.size + 4 ≤ w2.heap.size := by have := blk_lt2 hS2.cq; omega
  have hne2 : some w2.heap.size ≠ v'.ownBlock := fun e => by have := (hS2.row.lt _ e.symm).2.1; omega
  have HL0 := Aside0.mk (show Ls a b hh g w (w2.alloc (.cells #[.int .i64 (ps.getD 0 ⟨0, 0⟩).f0, .int .i64 (ps.getD 0 ⟨0, 0⟩).f1] 25)) w2.heap.size v' n ps.length ps 0 f [{ target := .collected D, args := #[] }] from
   ⟨hS2.quiet hbb, hbp, hlo, hne2, HBF.out.1, HBF.out.2.2, Nat.zero_le _, HBF.out.2.1, fun j hj => absurd hj (Nat.not_lt_zero j), Marks.cons (W := wl) trivial trivial hD (by omega) (blk_below2 hbb hD2)⟩)
  clear hS2 hbb hbp hD2 hlo hne2
  go_wp2
  refine wp_loop_ghost_k (fun m a' W => ∃ (u : Nat → Value) (ds : List Deferred) (Bp : Nat) (v : Value) (n k : Nat) (ps : List S25) (d : Nat) (f : Int → Int → Option S25), Aside0 (Ls a b hh g w W Bp v n k ps d f ds) ∧ a' = { tmps := #[u 0, u 1, .int .i64 hh, u 3, u 4, u 5, u 6, u 7, .pointer (some ⟨w.heap.size, 0, none⟩), u 9, .pointer (some ⟨w.heap.size + 2, 0, none⟩), .pointer (some ⟨w.heap.size + 3, 0, none⟩), u 12, .pointer (some ⟨Bp, 0, none⟩), .bool (decide (d < ps.length)), u 15, u 16, u 17, u 18, u 19, u 20, u 21, u 22, u 23, u 24, u 25, u 26, u 27, u 28, u 29, u 30, u 31, u 32, u 33, u 34, u 35, u 36, u 37, u 38, u 39, u 40, u 41, u 42, u 43, u 44, u 45, u 46, u 47, u 48, u 49, u 50, u 51, u 52, u 53, u 54, u 55, u 56, u 57, u 58, u 59, u 60, u 61, u 62, u 63, u 64, u 65, u 66, u 67, u 68, u 69, u 70, u 71, u 72, u 73, u 74, u 75, u 76, u 77, u 78, u 79, u 80, u 81, u 82, u 83, u 84, u 85, u 86, u 87, u 88, u 89, u 90, u 91, u 92], defers := ds } ∧ m = 2000 - d) 2000 ?start2 ?round2
  case start2 => exact ⟨fun k => ([_, _, undef, _, _, _, _, _, undef, _, undef, undef, _, undef, undef, _, _, _, _, _, _, _, _, _, _, _, _, _, _, _, _, _, _, _, _, _, _, _, _, _, _, _, _, _, _, _, _, _, _, _, _, _, _, _, _, _, _, _, _, _, _, _, _, _, _, _, _, _, _, _, _, _, _, _, _, _, _, _, _, _, _, _, _, _, _, _, _, _, _, _, _, _, _] : List Value).getD k undef, _, w2.heap.size, v', n, ps.length, ps, 0, f, HL0, rfl, rfl⟩
  case round2 =>
   clear HL0 HQ2 HDF HBF HS1 HS
   rintro m a' wr ⟨u, ds, Bp, v, n, k, ps, d, f, HL, rfl, rfl⟩ J K hJ hK
   have HK := Aside0.mk hK
   have HJ := Aside0.mk hJ
   clear hK hJ
   by_cases hlt : d < ps.length
   · rw [decide_eq_true hlt]
     obtain ⟨p, hpd⟩ : ∃ p, ps.getD d ⟨0, 0⟩ = p := ⟨_, rfl⟩
     have hp : ps[d]? = some p := by
      rw [List.getD_eq_getElem?_getD, List.getElem?_eq_getElem hlt] at hpd
      rw [List.getElem?_eq_getElem hlt]
      exact congrArg some hpd
     have hpm : p ∈ ps := List.mem_of_getElem? hp
     have hpa := HL.out.bf.mem p hpm
     have hbp := HL.out.bp
     rw [hpd] at hbp
     have c8 : wr.cell? ⟨w.heap.size, 0, none⟩ = some (.pointer (some ⟨g, 0, none⟩)) := (blk_cell HL.out.s.c8 0).trans rfl
     have c130 : wr.cell? ⟨Bp, 0, none⟩ = some (.int .i64 p.f0) := (blk_cell hbp 0).trans rfl
     have c131 : wr.cell? ⟨Bp, 1, none⟩ = some (.int .i64 p.f1) := (blk_cell hbp 1).trans rfl
     have HTW := Aside0.mk (HT.out.below HL.out.s.below)
     have HBP := Aside0.mk hbp
     have HP := Aside0.mk (And.intro hp (And.intro hpm hpa))
     clear hp hpm hpa hbp hpd
     generalize hz : endB a b p.f0 p.f1 = z
     have HZ := Aside0.mk hz
     cases z with
     | true =>
      obtain ⟨L, hbk, hbl, hba⟩ := HL.out.bf.path p HP.out.2.1
      have HLL := Aside0.mk (And.intro hbk (And.intro (Nat.le_trans hbl (HL.out.bf.len HR.out)) hba))
      clear hbk hbl hba
      go_wp2_with (go_at_call 59; refine (ends_calls g a b _ _ _ HTW.out).mono ?_; rintro e w2 ⟨rfl, hb2⟩; rw [HZ.out]; have HB2 := Aside0.mk hb2; have d130 : w2.cell? ⟨Bp, 0, none⟩ = some (.int .i64 p.f0) := (blk_cell (blk_below2 hb2 HBP.out) 0).trans rfl; have d131 : w2.cell? ⟨Bp, 1, none⟩ = some (.int .i64 p.f1) := (blk_cell (blk_below2 hb2 HBP.out) 1).trans rfl; clear hb2)
      have hb3 := below_alloc (Below.refl w2.heap.size w2) (.cells #[.int .i64 p.f0, .int .i64 p.f1] 25)
      have hn3 := blk_new w2 (.cells #[.int .i64 p.f0, .int .i64 p.f1] 25)
      have hb13 := below_then HB2.out HB2.out.size hb3
      have hlt2 := blk_lt2 (blk_below2 HB2.out HBP.out)
      have hlo2 : w.heap.size + 4 ≤ w2.heap.size := by have := HL.out.lo; omega
      have hOs : ∃ rest, Os a b w (w2.alloc (.cells #[.int .i64 p.f0, .int .i64 p.f1] 25)) Bp (.slice (some ⟨w2.heap.size, 0, none⟩) 1 1) n L [] p rest f ds := by
       obtain ⟨rest, hr⟩ := HLL.out.1.cons
       exact ⟨rest, HL.out.s.below.trans (hb13.mono HL.out.s.below.size), HL.out.s.map.below hb13, blk_below2 hb13 HL.out.s.c10, blk_below2 hb13 HBP.out, own_one hn3 hlo2, (fun e => by have h : Bp = w2.heap.size := Option.some.inj e; omega), hr ▸ HLL.out.1, hr.symm, HL.out.mks.below hb13⟩
      obtain ⟨rest, hOs⟩ := hOs
      have HOS := Aside0.mk hOs
      clear hb3 hn3 hb13 hOs hlt2 hlo2
      refine wp_loop_ghost_k (fun m a' W => ∃ (u : Nat → Value) (vo : Value) (dn : List S25) (q : S25) (rest : List S25), Aside0 (Os a b w W Bp vo n L dn q rest f ds) ∧ a' = { tmps := #[u 0, u 1, .int .i64 hh, u 3, u 4, u 5, u 6, u 7, .pointer (some ⟨w.heap.size, 0, none⟩), u 9, .pointer (some ⟨w.heap.size + 2, 0, none⟩), .pointer (some ⟨w.heap.size + 3, 0, none⟩), u 12, .pointer (some ⟨Bp, 0, none⟩), u 14, vo, u 16, u 17, u 18, u 19, u 20, u 21, u 22, u 23, u 24, u 25, u 26, u 27, u 28, u 29, u 30, u 31, u 32, u 33, u 34, u 35, u 36, u 37, u 38, u 39, u 40, u 41, u 42, u 43, u 44, u 45, u 46, u 47, u 48, u 49, u 50, u 51, u 52, u 53, u 54, u 55, u 56, u 57, u 58, u 59, u 60, u 61, u 62, u 63, u 64, u 65, u 66, u 67, u 68, u 69, u 70, u 71, u 72, u 73, u 74, u 75, u 76, u 77, u 78, u 79, u 80, u 81, u 82, u 83, u 84, u 85, u 86, u 87, u 88, u 89, u 90, u 91, u 92], defers := ds } ∧ m = rest.length) rest.length ?start3 ?round3
      case start3 => exact ⟨fun k => ([_, _, undef, _, _, _, _, _, undef, _, undef, undef, _, undef, _, undef, _, _, _, _, _, _, _, _, _, _, _, _, _, _, _, _, _, _, _, _, _, _, _, _, _, _, _, _, _, _, _, _, _, _, _, _, _, _, _, _, _, _, _, _, _, _, _, _, _, _, _, _, _, _, _, _, _, _, _, _, _, _, _, _, _, _, _, _, _, _, _, _, _, _, _, _, _] : List Value).getD k undef, .slice (some ⟨w2.heap.size, 0, none⟩) 1 1, [], p, rest, HOS, rfl, rfl⟩
      case round3 =>
       clear HOS c8 c130 c131 d130 d131
       rintro m a' W ⟨u, vo, dn, q, rest, HO, rfl, rfl⟩ J2 K2 hJ2 hK2
       have HK2 := Aside0.mk hK2
       have HJ2 := Aside0.mk hJ2
       clear hK2 hJ2
       obtain ⟨q', hfq, hcase⟩ := HO.out.bk.opened
       have hqL : q ∈ L := by rw [← HO.out.all]; simp
       have hqx := (hasP_iff a b _ _).1 ((mem_above a b hh q).1 (HLL.out.2.2 q hqL)).1
       have hin : inr q.f0 q.f1 := ⟨⟨by omega, by have := HR.out.ha; omega⟩, ⟨by omega, by have := HR.out.hb; omega⟩⟩
       have c10 : W.cell? ⟨w.heap.size + 2, 0, none⟩ = some (.map (some (w.heap.size + 1))) := (blk_cell HO.out.c10 0).trans rfl
       have c130 : W.cell? ⟨Bp, 0, none⟩ = some (.int .i64 q.f0) := (blk_cell HO.out.bp 0).trans rfl
       have c131 : W.cell? ⟨Bp, 1, none⟩ = some (.int .i64 q.f1) := (blk_cell HO.out.bp 1).trans rfl
       have hl : (Instr.lookup 100 (.map (some (w.heap.size + 1))) (.agg #[.int .i64 q.f0, .int .i64 q.f1]) false).run Try.prog W.drew = .ok (.agg #[.int .i64 ((f q.f0 q.f1).getD ⟨0, 0⟩).f0, .int .i64 ((f q.f0 q.f1).getD ⟨0, 0⟩).f1]) W.drew := MapF.look (HO.out.map.same (w' := W.drew) rfl) und100 (zero25 _) hin
       rw [hfq] at hl
       dsimp only [Option.getD_some] at hl
       rcases hcase with ⟨rfl, rfl⟩ | ⟨hqq, hbk⟩
       · have hcmp : (q'.f0 == q'.f0 && q'.f1 == q'.f1) = true := by simp
         have hone : dn ++ [q'] = L := HO.out.all
         have hrow := HO.out.row
         rw [hone] at hrow
         have hLne : L ≠ [] := by rw [← hone]; simp
         obtain ⟨gr, cap, rfl, hgr, hrc, hrm, hrv⟩ := own_rv hLne hrow
         have hL1 : 1 ≤ L.length := List.length_pos_iff.2 hLne
         have HRV := Aside0.mk (And.intro (And.intro hgr (And.intro hrc hrm)) hrv)
         have hLl : L.length ≤ 100000 := by have := HLL.out.2.1; omega
         clear hgr hrc hrm hrv hfq hqx hin hrow hLne
         go_wp2
         refine start_ (n := 5) (S := fun w' => w' = W.drew) (ds := []) #[false, false, false, false, false] (by kernel_rfl) rfl rfl rfl (fun hHeld => ?_)
         refine with_tabW bar16_tab bar16_bits (fun HT_ HW_ => ?_)
         refine take_ (i := 0) (N := some 55) (v := ?_) (a' := ?_) #[true, false, false, false, false] rfl rfl (take_ofW HT_.out HW_.out (by kernel_rfl)) (fun _ _ _ h => h) (Or.inl ⟨by rfl, ?_⟩) rfl ?_ ?_
         rotate_left
         · rintro w' rfl
           go_simp
           with_reducible rfl
         rotate_left
         · simp only [Act.put, List.setIfInBounds_toArray, List.set_cons_zero, List.set_cons_succ, i64_w, i32_w]
           rfl
         refine take_ (i := 1) (N := some 56) (v := ?_) (a' := ?_) #[true, true, false, false, false] rfl rfl (take_ofW HT_.out HW_.out (by kernel_rfl)) (fun _ _ _ h => h) (Or.inl ⟨by rfl, ?_⟩) rfl ?_ ?_
         rotate_left
         · rintro w' rfl
           go_simp
           with_reducible rfl
         rotate_left
         · simp only [Act.put, List.setIfInBounds_toArray, List.set_cons_zero, List.set_cons_succ, i64_w, i32_w]
           rfl
         refine take_ (i := 2) (N := some 57) (v := ?_) (a' := ?_) #[true, true, true, false, false] rfl rfl (take_ofW HT_.out HW_.out (by kernel_rfl)) (fun _ _ _ h => h) (Or.inl ⟨by rfl, ?_⟩) rfl ?_ ?_
         rotate_left
         · rintro w' rfl
           go_simp
           with_reducible rfl
         rotate_left
         · simp only [Act.put, List.setIfInBounds_toArray, List.set_cons_zero, List.set_cons_succ, i64_w, i32_w]
           rfl
         refine take_ (i := 3) (N := some 58) (v := ?_) (a' := ?_) #[true, true, true, true, false] rfl rfl (take_ofW HT_.out HW_.out (by kernel_rfl)) (fun _ _ _ h => h) (Or.inl ⟨by rfl, ?_⟩) rfl ?_ ?_
         rotate_left
         · rintro w' rfl
           go_simp
           with_reducible rfl
         rotate_left
         · simp only [Act.put, List.setIfInBounds_toArray, List.set_cons_zero, List.set_cons_succ, i64_w, i32_w]
           rfl
         refine take_ (i := 4) (N := some 59) (v := ?_) (a' := ?_) #[true, true, true, true, true] rfl rfl (take_ofW HT_.out HW_.out (by kernel_rfl)) (fun _ _ _ h => h) (Or.inl ⟨by rfl, ?_⟩) rfl ?_ ?_
         rotate_left
         · rintro w' rfl
           go_simp
           with_reducible rfl
         rotate_left
         · simp only [Act.put, List.setIfInBounds_toArray, List.set_cons_zero, List.set_cons_succ, i64_w, i32_w]
           rfl
         refine done_ (done_of HT_.out (by kernel_rfl)) ?_
         go_wp2_with (go_at_call 60; refine (reverse_calls gr cap L _ HRV.out.2.drew hLl hL1).mono ?_; rintro e w5 ⟨⟨u5, rfl⟩, hrv5, hf5⟩)
         obtain ⟨cur, hcur, -, -⟩ := HRV.out.2
         have hmk : Marks w.heap.size ds w5 := Marks.fr (W := W.drew) (HO.out.mks.mono' (fun _ _ _ _ h => h)) hcur (fun j e => (by cases e)) hf5
         have hb6 : Below w.heap.size W w5 := ⟨hf5.os, hf5.tape, hf5.output, hf5.size, fun k hk => hf5.but k (Nat.lt_of_lt_of_le hk HO.out.below.size) (by have := HRV.out.1.1; omega) (fun e => by cases e)⟩
         have hb5 : Below w.heap.size w w5 := HO.out.below.trans hb6
         refine leaves_marks ds _ hmk (fun W' hb hk => ⟨_, results_tmp2 rfl _ _ _, HB0.out.trans ((hb5.trans hb).mono HB0.out.size), .inl ⟨_, L.reverse, rfl, ?_, HLL.out.1.bar HLL.out.2.2 HZ.out, by rw [List.length_reverse]; exact HLL.out.2.1⟩⟩)
         have hlen : L.length = L.reverse.length := by rw [List.length_reverse]
         rw [hlen]
         exact Kd.R_lower ⟨fun _ _ => trivial, cellsW L.reverse, own_hk (rv_own hrv5 HRV.out.1.1 (by rw [← hlen]; exact HRV.out.1.2.1) HRV.out.1.2.2) hk, reps_W _ _ _ _⟩ (by have := HB0.out.size; omega)
       · obtain ⟨tl, rfl⟩ := hbk.cons
         have hcmp : (q'.f0 == q.f0 && q'.f1 == q.f1) = false := by
          cases hc : (q'.f0 == q.f0 && q'.f1 == q.f1) with
          | false => rfl
          | true =>
           rw [Bool.and_eq_true, beq_iff_eq, beq_iff_eq] at hc
           obtain ⟨x0, x1⟩ := q'
           obtain ⟨y0, y1⟩ := q
           simp only at hc
           exact absurd (by rw [hc.1, hc.2]) hqq
         go_wp2
         refine start_ (n := 5) (S := fun w' => w' = W.drew) (ds := []) #[false, false, false, false, false] (by kernel_rfl) rfl rfl rfl (fun hHeld => ?_)
         refine with_tabW bar16_tab bar16_bits (fun HT_ HW_ => ?_)
         refine take_ (i := 0) (N := some 55) (v := ?_) (a' := ?_) #[true, false, false, false, false] rfl rfl (take_ofW HT_.out HW_.out (by kernel_rfl)) (fun _ _ _ h => h) (Or.inl ⟨by rfl, ?_⟩) rfl ?_ ?_
         rotate_left
         · rintro w' rfl
           go_simp
           with_reducible rfl
         rotate_left
         · simp only [Act.put, List.setIfInBounds_toArray, List.set_cons_zero, List.set_cons_succ, i64_w, i32_w]
           rfl
         refine take_ (i := 1) (N := some 56) (v := ?_) (a' := ?_) #[true, true, false, false, false] rfl rfl (take_ofW HT_.out HW_.out (by kernel_rfl)) (fun _ _ _ h => h) (Or.inl ⟨by rfl, ?_⟩) rfl ?_ ?_
         rotate_left
         · rintro w' rfl
           go_simp
           with_reducible rfl
         rotate_left
         · simp only [Act.put, List.setIfInBounds_toArray, List.set_cons_zero, List.set_cons_succ, i64_w, i32_w]
           rfl
         refine take_ (i := 2) (N := some 57) (v := ?_) (a' := ?_) #[true, true, true, false, false] rfl rfl (take_ofW HT_.out HW_.out (by kernel_rfl)) (fun _ _ _ h => h) (Or.inl ⟨by rfl, ?_⟩) rfl ?_ ?_
         rotate_left
         · rintro w' rfl
           go_simp
           with_reducible rfl
         rotate_left
         · simp only [Act.put, List.setIfInBounds_toArray, List.set_cons_zero, List.set_cons_succ, i64_w, i32_w]
           rfl
         refine take_ (i := 3) (N := some 58) (v := ?_) (a' := ?_) #[true, true, true, true, false] rfl rfl (take_ofW HT_.out HW_.out (by kernel_rfl)) (fun _ _ _ h => h) (Or.inl ⟨by rfl, ?_⟩) rfl ?_ ?_
         rotate_left
         · rintro w' rfl
           go_simp
           with_reducible rfl
         rotate_left
         · simp only [Act.put, List.setIfInBounds_toArray, List.set_cons_zero, List.set_cons_succ, i64_w, i32_w]
           rfl
         refine take_ (i := 4) (N := some 59) (v := ?_) (a' := ?_) #[true, true, true, true, true] rfl rfl (take_ofW HT_.out HW_.out (by kernel_rfl)) (fun _ _ _ h => h) (Or.inl ⟨by rfl, ?_⟩) rfl ?_ ?_
         rotate_left
         · rintro w' rfl
           go_simp
           with_reducible rfl
         rotate_left
         · simp only [Act.put, List.setIfInBounds_toArray, List.set_cons_zero, List.set_cons_succ, i64_w, i32_w]
           rfl
         refine done_ (done_of HT_.out (by kernel_rfl)) ?_
         have hfz0 : W.frozen? ⟨Bp, 0, none⟩ = false := blk_frozen HO.out.bp 0
         have hfz1 : W.frozen? ⟨Bp, 1, none⟩ = false := blk_frozen HO.out.bp 1
         have hrow3 : ((W.setCell ⟨Bp, 0, none⟩ (.int .i64 q'.f0)).setCell ⟨Bp, 1, none⟩ (.int .i64 q'.f1)).ownsRow (w.heap.size + 4) 25 2 vo (dn ++ [q]).length (cellsW (dn ++ [q])) := own_kept HO.out.row (fun j o h1 h2 => (two_ne _ _ (fun e => HO.out.ne (by rw [h1, e]))).trans h2)
         have hset := two_set (v0 := .int .i64 q'.f0) (v1 := .int .i64 q'.f1) HO.out.bp
         have hdl : (dn ++ [q]).length + 1 ≤ 1800 := by
          have h1 := HLL.out.2.1
          rw [← HO.out.all] at h1
          simp at h1 ⊢
          omega
         obtain ⟨i0, hi, hz0, hz1, hz2⟩ := info_parts info25
         have hlt3 : w.heap.size + 4 ≤ W.heap.size := by have := HO.out.row; have := blk_lt2 HO.out.bp; have := HL.out.lo; omega
         go_wp2_with (at_builtin; refine Aside0.out ?_)
         refine ⟨?_⟩
         refine wpList_append_own_at _ rfl _ _ 38 rfl (w.heap.size + 4) 25 i0 (.agg #[(.int .i64 0), (.int .i64 0)]) 2 16 Try.underlying38 hi hz0 hz1 hz2 rfl (by decide) vo (dn ++ [q]).length (cellsW (dn ++ [q])) rfl (hrow3.alloc _) ⟨W.heap.size, 0, none⟩ 1 1 [.int .i64 q'.f0, .int .i64 q'.f1] rfl rfl (by simpa using cell_two_new ((W.setCell ⟨Bp, 0, none⟩ (.int .i64 q'.f0)).setCell ⟨Bp, 1, none⟩ (.int .i64 q'.f1)) (Value.int IntKind.i64 q'.f0) (Value.int IntKind.i64 q'.f1) 25) (by simp [Value.oneCell']) (by unfold maxLen; omega) (by omega) (by simp; omega) ?_
         intro v' wa hown' hgrow _ hat'
         go_wp2
         have hob : ∀ j, vo.ownBlock = some j → w.heap.size + 4 ≤ j ∧ j < W.heap.size := fun j hj => ⟨own_base HO.out.row j hj, own_lt HO.out.row j hj⟩
         have hkeep : ∀ (j : Nat), j < W.heap.size → j ≠ Bp → vo.ownBlock ≠ some j → wa.heap[j]? = W.heap[j]? := fun j h1 h2 h3 =>
          (hgrow.block j (Nat.lt_of_lt_of_le h1 (by simp)) (Ne.symm h3)).trans ((Below.heap_alloc _ _ _ (by simpa using h1)).trans (two_ne _ _ h2))
         have hltB := blk_lt2 HO.out.bp
         have hlo := HL.out.lo
         have hsz : W.heap.size ≤ wa.heap.size := Nat.le_trans (by simp) hgrow.size
         refine HK2.out _ _ (Handed.intro tl.length (by simp) (HJ2.out _ _ _ ⟨fun k => ([_, _, undef, _, _, _, _, _, undef, _, undef, undef, _, undef, _, undef, _, _, _, _, _, _, _, _, _, _, _, _, _, _, _, _, _, _, _, _, _, _, _, _, _, _, _, _, _, _, _, _, _, _, _, _, _, _, _, _, _, _, _, _, _, _, _, _, _, _, _, _, _, _, _, _, _, _, _, _, _, _, _, _, _, _, _, _, _, _, _, _, _, _, _, _, _] : List Value).getD k undef, v', dn ++ [q], q', tl, ⟨?_⟩, rfl, rfl⟩))
         have hlt4 : w.heap.size + 2 < W.heap.size := blk_lt2 HO.out.c10
         refine ⟨HO.out.below.trans ⟨hgrow.os, hgrow.tape, hgrow.output, hsz, fun j hj => hkeep j (by omega) (by omega) (fun e => by have := (hob j e).1; omega)⟩, HO.out.map.same (hkeep _ (by omega) (by omega) (fun e => by have := (hob _ e).1; omega)), (hkeep _ hlt4 (by omega) (fun e => by have := (hob _ e).1; omega)).trans HO.out.c10, ?_, ?_, ?_, hbk, by rw [← HO.out.all]; simp, ?_⟩
         · exact (hgrow.block Bp (Nat.lt_of_lt_of_le hltB (by simp)) HO.out.ne).trans ((Below.heap_alloc _ _ _ (by simpa using hltB)).trans hset)
         · have hc : cellsW ((dn ++ [q]) ++ [q']) = cellsW (dn ++ [q]) ++ [Value.int IntKind.i64 q'.f0, Value.int IntKind.i64 q'.f1] := by simp [cellsW]
           have hl2 : ((dn ++ [q]) ++ [q']).length = (dn ++ [q]).length + 1 := by simp
           rw [hc, hl2]
           exact hown'
         · rcases hat' with h | h
           · rw [h]; exact HO.out.ne
           · rw [h]
             exact fun e => by have h5 := Option.some.inj e; simp only [World.size_drew, World.size_alloc, World.size_setCell] at h5; omega
         · exact HO.out.mks.mono' fun d hd D he h5 => (hkeep D (blk_lt2 h5) (fun e => by subst e; rw [HO.out.bp] at h5; cases h5) (fun e => own_def HO.out.row e h5)).trans h5
     | false =>
      go_wp2_with (first | (go_at_call 59; refine (ends_calls g a b _ _ _ HTW.out).mono ?_; rintro e w2 ⟨rfl, hb2⟩; rw [HZ.out]; have HB2 := Aside0.mk hb2; have d8 : w2.cell? ⟨w.heap.size, 0, none⟩ = some (.pointer (some ⟨g, 0, none⟩)) := (blk_cell (blk_below2 hb2 HL.out.s.c8) 0).trans rfl; clear hb2) | (go_at_call 55; refine (callsIn_wide.1 (above_in 3 g hh _)).mono ?_; rintro e w3 ⟨rfl, rfl⟩))
      clear c8 c130 c131 d8
      have hb3 := below_alloc (below_alloc (Below.refl w2.heap.size w2) (Obj.cells #[Value.pointer (some ⟨g, 0, none⟩)] 80)) (Obj.cells #[Value.int IntKind.i64 hh] 3)
      have hbt := blk_alloc (blk_new w2 (Obj.cells #[Value.pointer (some ⟨g, 0, none⟩)] 80)) (Obj.cells #[Value.int IntKind.i64 hh] 3)
      have hbh := blk_new (w2.alloc (Obj.cells #[Value.pointer (some ⟨g, 0, none⟩)] 80)) (Obj.cells #[Value.int IntKind.i64 hh] 3)
      have hsl : ((w2.alloc (Obj.cells #[Value.pointer (some ⟨g, 0, none⟩)] 80)).alloc (Obj.cells #[Value.int IntKind.i64 hh] 3)).heap.size = w2.heap.size + 2 := by simp
      rw [World.size_alloc] at hbh
      generalize ((w2.alloc (Obj.cells #[Value.pointer (some ⟨g, 0, none⟩)] 80)).alloc (Obj.cells #[Value.int IntKind.i64 hh] 3)) = wl at hb3 hbt hbh hsl ⊢
      have hbl := below_then HB2.out HB2.out.size hb3
      have hlo2 : w.heap.size + 4 ≤ w2.heap.size := by have := blk_lt2 (blk_below2 HB2.out HBP.out); have := HL.out.lo; omega
      have HI0 := Aside0.mk (show It g w wl w2.heap.size (w2.heap.size + 1) hh v n (ps.drop (d + 1)) f from ⟨HL.out.s.quiet hbl, hbt, hbh, hlo2, by omega⟩)
      have HBL := Aside0.mk hbl
      clear hb3 hbt hbh hbl
      refine (wpIn_wide (n := 3)).1 ?_
      refine wpIn_rangeFunc_ownH rfl (by omega) (gf := 76) (lb := #[.pointer (some ⟨w2.heap.size, 0, none⟩), .pointer (some ⟨w2.heap.size + 1, 0, none⟩)]) rfl trivial (enters_of Try.func76 (by kernel_rfl) rfl)
       (above_stops _ (by omega) w2.heap.size (w2.heap.size + 1) g w.heap.size a b hh HR.out wl HI0.out.t1 HI0.out.t2 (fun W' hb => HT.out.below (HI0.out.s.below.trans hb)) (by omega)) KpA.trans' (KpA.putObj (by omega)) (Below.refl _ _) (fun _ => rfl)
       (fun pre W => ∃ (v' : Value) (n' : Nat) (ps' : List S25) (f' : Int → Int → Option S25), I2 a b hh g w W w2.heap.size (w2.heap.size + 1) Bp v' n' k ps ps' d p f' ds ∧ ∀ q ∈ pre, preB p q.1 = true → q.1 ∈ ps')
       (fun _ _ _ => False)
       (fun pre X Y row hs hg hr => by
        obtain ⟨v', n', ps', f', h1, h2⟩ := hs
        have hne : ∀ (j : Nat) (o : Obj), X.heap[j]? = some o → (j < wr.heap.size ∨ o.isCells = true) → Y.heap[j]? = some o := fun j o ho hc => (hg.block j (blk_lt2 ho) (fun e => by
         obtain ⟨h3, o', h4, h5⟩ := hr j e.symm
         rw [ho] at h4
         cases h4
         rcases hc with hc | hc
         · have := HBL.out.size; omega
         · rw [hc] at h5; cases h5)).trans ho
        exact ⟨v', n', ps', f', ⟨h1.s.grown hg (fun r e => by obtain ⟨h3, h4⟩ := hr r e; exact ⟨by omega, h4⟩), h1.bf, h1.cap, h1.pre, hne _ _ h1.bp (.inr rfl), h1.ne, h1.mks.mono' fun x hx D he h5 => hne _ _ h5 (.inl (HL.out.mks.lt x hx D he))⟩, h2⟩)
       (fun _ _ _ _ _ hs _ _ => hs)
       ⟨v, n, ps, f, ⟨HI0.out, HL.out.bf, HL.out.cap, ⟨[], by simp⟩, blk_below2 HBL.out HBP.out, HL.out.ne, HL.out.mks.below HBL.out⟩, fun q hq => by cases hq⟩
       (fun x a' W => ∃ (u : Nat → Value) (Bq : Nat), a' = { tmps := #[u 0, u 1, .int .i64 hh, u 3, u 4, u 5, u 6, u 7, .pointer (some ⟨w.heap.size, 0, none⟩), u 9, .pointer (some ⟨w.heap.size + 2, 0, none⟩), .pointer (some ⟨w.heap.size + 3, 0, none⟩), u 12, .pointer (some ⟨Bp, 0, none⟩), u 14, u 15, .pointer (some ⟨Bq, 0, none⟩), u 17, u 18, u 19, u 20, u 21, u 22, u 23, u 24, u 25, u 26, u 27, u 28, u 29, u 30, u 31, u 32, u 33, u 34, u 35, u 36, u 37, u 38, u 39, u 40, u 41, u 42, u 43, u 44, u 45, u 46, u 47, u 48, u 49, u 50, u 51, u 52, u 53, u 54, u 55, u 56, u 57, u 58, u 59, u 60, u 61, u 62, u 63, u 64, u 65, u 66, u 67, u 68, u 69, u 70, u 71, u 72, u 73, u 74, u 75, u 76, u 77, u 78, u 79, u 80, u 81, u 82, u 83, u 84, u 85, u 86, u 87, u 88, u 89, u 90, u 91, u 92], defers := [] } ∧ W.heap[Bq]? = some (.cells #[.int .i64 x.1.f0, .int .i64 x.1.f1] 25 (0, 0)))
       (fun x a' _ X Y row hs hg hr => by
        obtain ⟨u, Bq, h1, h2⟩ := hs
        exact ⟨u, Bq, h1, (hg.block Bq (blk_lt2 h2) (fun e => by obtain ⟨_, o, ho, hc⟩ := hr Bq e.symm; rw [h2] at ho; cases ho; cases hc)).trans h2⟩) ?assign4 ?body4 ?done4 ?stop4
      case stop4 =>
       rintro D c pre W _ _ h _
       exact h.elim
      case assign4 =>
       intro l pre x W K hI hK
       gi_wp2
       obtain ⟨v', n', ps', f', h1, h2⟩ := hI
       have hb := below_alloc (Below.refl W.heap.size W) (Obj.cells #[Value.int IntKind.i64 x.1.f0, Value.int IntKind.i64 x.1.f1] 25)
       obtain ⟨kk, h3⟩ := h1.quiet wl.heap.size hb
       exact hK _ _ kk.1 kk.2 ⟨v', n', ps', f', h3, h2⟩ ⟨fun k => ([_, _, undef, _, _, _, _, _, undef, _, undef, undef, _, undef, _, _, undef, _, _, _, _, _, _, _, _, _, _, _, _, _, _, _, _, _, _, _, _, _, _, _, _, _, _, _, _, _, _, _, _, _, _, _, _, _, _, _, _, _, _, _, _, _, _, _, _, _, _, _, _, _, _, _, _, _, _, _, _, _, _, _, _, _, _, _, _, _, _, _, _, _, _, _, _] : List Value).getD k undef, _, rfl, blk_new _ _⟩
      case body4 =>
       rintro l pre x a' W hl _ hI ⟨u, Bq, rfl, hq⟩ hlt4
       obtain ⟨v', n', ps', f', hI2, hcl⟩ := hI
       dsimp only
       have hxp := (hasP_iff a b _ _).1 ((mem_above a b hh x.1).1 x.2).1
       have hin : inr x.1.f0 x.1.f1 := ⟨⟨by omega, by have := HR.out.ha; omega⟩, ⟨by omega, by have := HR.out.hb; omega⟩⟩
       have hpp := (hasP_iff a b _ _).1 ((mem_above a b hh p).1 HP.out.2.2).1
       have hpin : (0 ≤ p.f0 ∧ p.f0 ≤ 1000000) ∧ (0 ≤ p.f1 ∧ p.f1 ≤ 1000000) := ⟨⟨by omega, by have := HR.out.ha; omega⟩, ⟨by omega, by have := HR.out.hb; omega⟩⟩
       have c10 : W.cell? ⟨w.heap.size + 2, 0, none⟩ = some (.map (some (w.heap.size + 1))) := (blk_cell hI2.s.s.c10 0).trans rfl
       have c160 : W.cell? ⟨Bq, 0, none⟩ = some (.int .i64 x.1.f0) := (blk_cell hq 0).trans rfl
       have c161 : W.cell? ⟨Bq, 1, none⟩ = some (.int .i64 x.1.f1) := (blk_cell hq 1).trans rfl
       have hlk : (Instr.lookup 100 (.map (some (w.heap.size + 1))) (.agg #[.int .i64 x.1.f0, .int .i64 x.1.f1]) true).run Try.prog W = .ok (.tuple #[.agg #[.int .i64 ((f' x.1.f0 x.1.f1).getD ⟨0, 0⟩).f0, .int .i64 ((f' x.1.f0 x.1.f1).getD ⟨0, 0⟩).f1], .bool (f' x.1.f0 x.1.f1).isSome]) W := MapF.look_ok hI2.s.s.map und100 (zero25 _) hin
       have hdm := hI2.bf.dom x.1.f0 x.1.f1
       generalize hfx : (f' x.1.f0 x.1.f1).isSome = ok at hlk hdm
       generalize (f' x.1.f0 x.1.f1).getD ⟨0, 0⟩ = y at hlk
       have hb1 := below_alloc (Below.refl W.heap.size W) (Obj.cells #[Value.int IntKind.i64 y.f0, Value.int IntKind.i64 y.f1] 25)
       have HB1 := Aside0.mk hb1
       have HI2 := Aside0.mk hI2
       have HQ := Aside0.mk hq
       have HCL := Aside0.mk hcl
       have HPI := Aside0.mk (And.intro hpin hin)
       have HDM := Aside0.mk hdm
       have hps : ps'.length ≤ 1800 := hI2.bf.len HR.out
       clear hb1 hI2 hq hcl hpin hin hpp hxp hdm hfx
       cases ok with
       | true =>
        gi_wp2
        refine ⟨trivial, ?_⟩
        gi_wp2
        obtain ⟨kk, h3⟩ := HI2.out.quiet wl.heap.size HB1.out
        refine ⟨kk.1, kk.2, v', n', ps', f', h3, fun q hq hz' => ?_⟩
        rcases List.mem_append.1 hq with hq | hq
        · exact HCL.out q hq hz'
        · rw [List.mem_singleton.1 hq]; exact HDM.out.1 (by first | rfl | trivial)
       | false =>
        have hnm : x.1 ∉ ps' := fun hm => by have := HDM.out.2 hm; cases this
        have e130 : (W.alloc (Obj.cells #[Value.int IntKind.i64 y.f0, Value.int IntKind.i64 y.f1] 25)).cell? ⟨Bp, 0, none⟩ = some (.int .i64 p.f0) := (blk_cell (blk_below2 HB1.out HI2.out.bp) 0).trans rfl
        have e131 : (W.alloc (Obj.cells #[Value.int IntKind.i64 y.f0, Value.int IntKind.i64 y.f1] 25)).cell? ⟨Bp, 1, none⟩ = some (.int .i64 p.f1) := (blk_cell (blk_below2 HB1.out HI2.out.bp) 1).trans rfl
        have e160 : (W.alloc (Obj.cells #[Value.int IntKind.i64 y.f0, Value.int IntKind.i64 y.f1] 25)).cell? ⟨Bq, 0, none⟩ = some (.int .i64 x.1.f0) := (blk_cell (blk_below2 HB1.out HQ.out) 0).trans rfl
        have e161 : (W.alloc (Obj.cells #[Value.int IntKind.i64 y.f0, Value.int IntKind.i64 y.f1] 25)).cell? ⟨Bq, 1, none⟩ = some (.int .i64 x.1.f1) := (blk_cell (blk_below2 HB1.out HQ.out) 1).trans rfl
        generalize hzz : preB p x.1 = zz
        have HZZ := Aside0.mk hzz
        cases zz with
        | false =>
         gi_wp2_with (refine ⟨trivial, ?_⟩; gi_at_call 61; refine (callsIn_round (prec_calls p x.1 _ HPI.out.1.1 HPI.out.1.2)).mono ?_; rintro e w5 ⟨rfl, hb5⟩; rw [HZZ.out]; have HB5 := Aside0.mk hb5; clear hb5)
         obtain ⟨kk, h3⟩ := HI2.out.quiet wl.heap.size (below_then HB1.out HB1.out.size HB5.out)
         refine ⟨kk.1, kk.2, v', n', ps', f', h3, fun q hq hz' => ?_⟩
         rcases List.mem_append.1 hq with hq | hq
         · exact HCL.out q hq hz'
         · rw [List.mem_singleton.1 hq, HZZ.out] at hz'; cases hz'
        | true =>
         gi_wp2_with (first | (refine ⟨trivial, ?_⟩; gi_at_call 61; refine (callsIn_round (prec_calls p x.1 _ HPI.out.1.1 HPI.out.1.2)).mono ?_; rintro e w5 ⟨rfl, hb5⟩; rw [HZZ.out]; have hbw := below_then HB1.out HB1.out.size hb5; obtain ⟨kk5, hI5⟩ := HI2.out.quiet wl.heap.size hbw; have hq5 := blk_below2 hbw HQ.out; obtain ⟨w6, hrun, hM6, hg6⟩ := hI5.s.s.map.put und100 (by have := hI5.cap; unfold maxLen; omega) HPI.out.2 p; have hrun' : (Instr.mapUpdate 100 (.map (some (w.heap.size + 1))) (.agg #[.int .i64 x.1.f0, .int .i64 x.1.f1]) (.agg #[.int .i64 p.f0, .int .i64 p.f1])).run Try.prog w5 = .ok () w6 := hrun; have d10 : w5.cell? ⟨w.heap.size + 2, 0, none⟩ = some (.map (some (w.heap.size + 1))) := (blk_cell hI5.s.s.c10 0).trans rfl; have d160 : w5.cell? ⟨Bq, 0, none⟩ = some (.int .i64 x.1.f0) := (blk_cell hq5 0).trans rfl; have d161 : w5.cell? ⟨Bq, 1, none⟩ = some (.int .i64 x.1.f1) := (blk_cell hq5 1).trans rfl; have d130 : w5.cell? ⟨Bp, 0, none⟩ = some (.int .i64 p.f0) := (blk_cell hI5.bp 0).trans rfl; have d131 : w5.cell? ⟨Bp, 1, none⟩ = some (.int .i64 p.f1) := (blk_cell hI5.bp 1).trans rfl; have hq6 := (hg6.block Bq (blk_lt2 hq5) (fun e => map_cells hI5.s.s.map (Option.some.inj e ▸ hq5))).trans hq5; have f160 : w6.cell? ⟨Bq, 0, none⟩ = some (.int .i64 x.1.f0) := (blk_cell hq6 0).trans rfl; have f161 : w6.cell? ⟨Bq, 1, none⟩ = some (.int .i64 x.1.f1) := (blk_cell hq6 1).trans rfl; obtain ⟨kk6, hI6⟩ := hI5.s.put wl.heap.size (by omega) hM6 hg6; have HK5 := Aside0.mk (And.intro kk5 kk6); have HI5 := Aside0.mk hI5; have HI6 := Aside0.mk hI6; have HG6 := Aside0.mk hg6; clear kk5 kk6 hI5 hI6 hg6 hM6 hrun hq5 hq6 hbw hb5) | (refine ⟨trivial, ?_⟩; gi_at_call 57; refine (callsIn_round (push_calls (w.heap.size + 3) (w.heap.size + 4) v' (ps'.drop (d + 1)) x.1 w6 HI6.out.s.cq HI6.out.s.row HI6.out.sz (by rw [List.length_drop]; omega))).mono ?_; rintro e w7 ⟨⟨u7, rfl⟩, v7, hq7, ht7, hf7, hat7⟩))
         obtain ⟨kk7, hI7⟩ := HI6.out.queue wl.heap.size (by omega) hq7 ht7 hf7
         have hb8 := HI5.out.bf.push x.2 hnm (by obtain ⟨t, ht⟩ := HI5.out.pre; rw [ht]; exact List.mem_append_left _ HP.out.2.1) HZZ.out
         have hdrop : (ps' ++ [x.1]).drop (d + 1) = ps'.drop (d + 1) ++ [x.1] := List.drop_append_of_le_length (by obtain ⟨t, ht⟩ := HI5.out.pre; rw [ht]; simp; omega)
         rw [← hdrop] at hI7
         have hbp7 : w7.heap[Bp]? = some (.cells #[.int .i64 p.f0, .int .i64 p.f1] 25 (0, 0)) := by
          have h1 := (HG6.out.block Bp (blk_lt2 HI5.out.bp) (fun e => map_cells HI5.out.s.s.map (Option.some.inj e ▸ HI5.out.bp))).trans HI5.out.bp
          exact (hf7.but Bp (blk_lt2 h1) (by have := HL.out.lo; omega) HI5.out.ne).trans h1
         have hne7 : some Bp ≠ v7.ownBlock := by
          rcases hat7 with h | ⟨b7, h1, h2⟩
          · rw [h]; exact HI5.out.ne
          · rw [h1]
            intro e
            have h3 := Option.some.inj e
            have h4 := blk_lt2 HI5.out.bp
            have := HG6.out.size
            omega
         have hmk7 : Marks w.heap.size ds w7 := by
          have h1 : Marks w.heap.size ds w6 := HI5.out.mks.mono' fun z hz D he h5 => (HG6.out.block D (blk_lt2 h5) (fun e => by
           have h6 := Option.some.inj e
           obtain ⟨D0, h1, ⟨es, clock, hb, h2⟩, h3⟩ := HI5.out.s.s.map
           rw [h6, hb] at h5
           cases h5)).trans h5
          exact h1.fr HI6.out.s.cq (fun j hj => by obtain ⟨_, _, cur, h2⟩ := HI6.out.s.row.lt j hj; exact ⟨_, _, _, h2⟩) hf7
         refine ⟨HK5.out.1.1.trans (HK5.out.2.1.trans kk7.1), KpA.trans' HK5.out.1.2 (KpA.trans' HK5.out.2.2 kk7.2), v7, n' + 1, ps' ++ [x.1], upd f' x.1.f0 x.1.f1 p, ⟨hI7, hb8, by have := HI5.out.cap; simp; omega, by obtain ⟨t, ht⟩ := HI5.out.pre; exact ⟨t ++ [x.1], by rw [ht, List.append_assoc]⟩, hbp7, hne7, hmk7⟩, fun q hq hz' => ?_⟩
         rcases List.mem_append.1 hq with hq | hq
         · exact List.mem_append_left _ (HCL.out q hq hz')
         · rw [List.mem_singleton.1 hq]; exact List.mem_append_right _ (by simp)
      case done4 =>
       rintro D ys W hD hys hI hDf
       obtain ⟨v', n', ps', f', hI2, hcl⟩ := hI
       have hclo : ∀ q ∈ aboveOf a b hh, preB p q = true → q ∈ ps' := fun q hq hz => by
        rw [← hys] at hq
        obtain ⟨y, hy, rfl⟩ := List.mem_map.1 hq
        exact hcl y hy hz
       have c130 : W.cell? ⟨Bp, 0, none⟩ = some (.int .i64 p.f0) := (blk_cell hI2.bp 0).trans rfl
       have c131 : W.cell? ⟨Bp, 1, none⟩ = some (.int .i64 p.f1) := (blk_cell hI2.bp 1).trans rfl
       have HI2 := Aside0.mk hI2
       have HCL := Aside0.mk hclo
       have HDF := Aside0.mk hDf
       clear hI2 hcl hclo hDf hys
       have hb5 := below_alloc (Below.refl W.heap.size W) (Obj.cells #[Value.int IntKind.i64 p.f0, Value.int IntKind.i64 p.f1] 25)
       have hn5 := blk_new W (Obj.cells #[Value.int IntKind.i64 p.f0, Value.int IntKind.i64 p.f1] 25)
       have HB5 := Aside0.mk (And.intro hb5 hn5)
       clear hb5 hn5
       dsimp only
       go_wp2_with (go_at_call 58; refine (pop_at (w.heap.size + 3) (w.heap.size + 4) v' ps' (d + 1) _ (blk_below2 HB5.out.1 HI2.out.s.s.cq) (HI2.out.s.s.row.below HB5.out.1)).mono ?_; rintro e w6 ⟨rfl, v6, hq6, ht6, hf6, ho6⟩; have hs6 := (HI2.out.s.s.quiet HB5.out.1).queue hq6 ht6 (hf6.weak _); have hb6 : w6.heap[W.heap.size]? = some (.cells #[.int .i64 p.f0, .int .i64 p.f1] 25 (0, 0)) := (hf6.but _ (blk_lt2 HB5.out.2) (by have := blk_lt2 HI2.out.s.s.cq; omega) (fun e => by cases e)).trans HB5.out.2; have g0 : w6.frozen? ⟨W.heap.size, 0, none⟩ = false := blk_frozen hb6 0; have g1 : w6.frozen? ⟨W.heap.size, 1, none⟩ = false := blk_frozen hb6 1; have g2 : w6.cell? ⟨W.heap.size, 0, none⟩ = some (.int .i64 p.f0) := (blk_cell hb6 0).trans rfl; have g3 : w6.cell? ⟨W.heap.size, 1, none⟩ = some (.int .i64 p.f1) := (blk_cell hb6 1).trans rfl; have HS6 := Aside0.mk hs6; have HB6 := Aside0.mk hb6; have HF6 := Aside0.mk hf6; have HO6 := Aside0.mk ho6; clear hs6 hb6 hf6 ho6 hq6 ht6)
       obtain ⟨t, ht⟩ := HI2.out.pre
       have hd18 := HL.out.bf.len HR.out
       have hlt6 : W.heap.size < w6.heap.size := blk_lt2 HB6.out
       have hNW : w.heap.size + 4 ≤ W.heap.size := HI2.out.s.sz
       have hneW : some W.heap.size ≠ v6.ownBlock := fun e => by rw [HO6.out] at e; have := (HI2.out.s.s.row.lt _ e.symm).2.1; omega
       have hget : ps'[d]? = some p := by rw [ht, List.getElem?_append_left hlt]; exact HP.out.1
       have hDW : D ≠ W.heap.size := fun e => by have := blk_lt2 HDF.out; omega
       refine HK.out _ _ (Handed.intro (2000 - (d + 1)) (by omega) (HJ.out _ _ _ ⟨fun k => ([_, _, undef, _, _, _, _, _, undef, _, undef, undef, _, undef, undef, _, _, _, _, _, _, _, _, _, _, _, _, _, _, _, _, _, _, _, _, _, _, _, _, _, _, _, _, _, _, _, _, _, _, _, _, _, _, _, _, _, _, _, _, _, _, _, _, _, _, _, _, _, _, _, _, _, _, _, _, _, _, _, _, _, _, _, _, _, _, _, _, _, _, _, _, _, _] : List Value).getD k undef, _, W.heap.size, v6, n', k, ps', d + 1, f', ⟨?_⟩, rfl, rfl⟩))
       refine ⟨HS6.out.set2 hNW hneW _ _, two_set HB6.out, hNW, hneW, HI2.out.bf, HI2.out.cap, by rw [ht]; simp; omega, fun q hq hz => by rw [ht]; exact List.mem_append_left _ (HL.out.beg q hq hz), fun j hj q hq => ?_, ?_⟩
       · by_cases hjd : j = d
         · subst hjd
           rw [hget] at hq
           cases hq
           exact ⟨HZ.out, HCL.out⟩
         · have hq2 : ps[j]? = some q := by rw [ht, List.getElem?_append_left (by omega)] at hq; exact hq
           obtain ⟨h1, h2⟩ := HL.out.cl j (by omega) q hq2
           exact ⟨h1, fun r hr hz => by rw [ht]; exact List.mem_append_left _ (h2 r hr hz)⟩
       · have h1 : Marks w.heap.size ds w6 := (HI2.out.mks.below HB5.out.1).fr (blk_below2 HB5.out.1 HI2.out.s.s.cq) (fun j e => by cases e) HF6.out
         have h2 := h1.mono' (W' := (w6.setCell ⟨W.heap.size, 0, none⟩ (Value.int IntKind.i64 (ps'[d + 1]?.getD { f0 := 0, f1 := 0 }).f0)).setCell ⟨W.heap.size, 1, none⟩ (Value.int IntKind.i64 (ps'[d + 1]?.getD { f0 := 0, f1 := 0 }).f1)) (fun z hz D' he h5 => (two_ne _ _ (fun e => by subst e; rw [HB6.out] at h5; cases h5)).trans h5)
         have hD6 : w6.heap[D]? = some (.deferred (some [])) := (HF6.out.but D (blk_lt2 (blk_below2 HB5.out.1 HDF.out)) (by have := HBL.out.size; have := blk_lt2 HL.out.s.cq; omega) (fun e => by cases e)).trans (blk_below2 HB5.out.1 HDF.out)
         exact h2.cons HL.out.mks (by have := HBL.out.size; omega) (by have := HBL.out.size; have := HL.out.s.below.size; omega) ((two_ne _ _ hDW).trans hD6)
   · rw [decide_eq_false hlt]
     go_wp2
     refine leaves_marks ds _ HL.out.mks (fun W' hb hk => ⟨_, results_tmp2 rfl _ _ _, HB0.out.trans ((HL.out.s.below.trans hb).mono HB0.out.size), .inr ⟨rfl, fun p hc => ?_⟩⟩)
     refine closed_none ps HL.out.beg (fun q hq => ?_) p hc
     obtain ⟨j, hj⟩ := List.getElem?_of_mem hq
     have := (List.getElem?_eq_some_iff.1 hj).1
     have := HL.out.dl
     exact HL.out.cl j (by omega) q hj

end Go.Proofs.Ytkocigldchiifaa.H

/- align.Verify. -/
namespace Go.Proofs.Ytkocigldchiifaa.H
open Go.RowKit Go.Proofs.YtkocigldchiifaaW.PrintWords Go.Proofs.YtkocigldchiifaaW.PrintLast Go.Proofs.YtkocigldchiifaaW.PrintMore
open Go.Shelf Go.Proofs.Ytkocigldchiifaa.QA
attribute [local go_sem] Oper.semAt_some
set_option linter.unusedVariables false
set_option linter.unusedSimpArgs false



def ver11_T : Bool × List (List Nat × List Nat) := (true, [([], []), ([0], [0]), ([1], [1]), ([2], [2]), ([2], [2]), ([4, 2], [2, 4]), ([3, 5, 2], [2, 3, 5]), ([6, 2], [2, 6]), ([2], [2]), ([7, 8, 2, 2], [2, 7, 8]), ([9, 2], [2, 9]), ([2, 10], [2, 10]), ([11, 9], [11])])
def ver11_B : List Nat := [0, 1, 3, 7, 7, 23, 63, 127, 7, 511, 1023, 2047, 4095]
theorem ver11_tab : rtab .any (opsOf Try.f30 11) = ver11_T := by kernel_rfl
theorem ver11_bits : waitsOk ver11_T.2 ver11_B = true := by kernel_rfl

def vfAt (a b : List S59) (h : Int) (l : List S25) (i : Nat) : Int :=
 if hasP a b (rd_T25 l i).f0 (rd_T25 l i).f1 = false then 8 else if 0 < i ∧ preB (rd_T25 l ((i : Int) - 1)) (rd_T25 l i) = false then 13 else if farD (rd_T59 a (rd_T25 l i).f0) (rd_T59 b (rd_T25 l i).f1) ≤ h then 14 else 0
def vfFrom (a b : List S59) (h : Int) (l : List S25) : Nat → Nat → Int
 | 0, _ => 0
 | n + 1, i => if vfAt a b h l i = 0 then vfFrom a b h l n (i + 1) else vfAt a b h l i
def verF (a b : List S59) (h : Int) (l : List S25) : Int :=
 if l.length = 0 then 4 else if vfFrom a b h l l.length 0 = 0 then (if begB a b (rd_T25 l 0).f0 (rd_T25 l 0).f1 = true ∧ endB a b (rd_T25 l ((l.length : Int) - 1)).f0 (rd_T25 l ((l.length : Int) - 1)).f1 = true then 0 else 7) else vfFrom a b h l l.length 0
def align_Verify.f (l0 l1 : List S59) (a2 : Int) (l3 : List S25) : Option Int := (align_Check.f l0 l1).bind fun e => some (if e = 0 then verF l0 l1 a2 l3 else e)
/-- What holds at the head of the loop. -/
structure Vs (a b : List S59) (h : Int) (l : List S25) (i : Nat) (w wr : World) : Prop where
 below : Below w.heap.size w wr
 eq : vfFrom a b h l l.length 0 = vfFrom a b h l (l.length - i) i
 has : ∀ j : Nat, j < i → hasP a b (rd_T25 l j).f0 (rd_T25 l j).f1 = true
theorem Vs.err {a b : List S59} {h : Int} {l : List S25} {i : Nat} {w wr : World} (hs : Vs a b h l i w wr) (hlt : i < l.length) {x : Int} (hx : vfAt a b h l i = x) (hne : x ≠ 0) : vfFrom a b h l l.length 0 = x := by
 rw [hs.eq, show l.length - i = (l.length - (i + 1)) + 1 by omega, vfFrom, hx, if_neg hne]
theorem Vs.next {a b : List S59} {h : Int} {l : List S25} {i : Nat} {w wr w' : World} (hs : Vs a b h l i w wr) (hlt : i < l.length) (hx : vfAt a b h l i = 0) (hp : hasP a b (rd_T25 l i).f0 (rd_T25 l i).f1 = true) (hb : Below wr.heap.size wr w') : Vs a b h l (i + 1) w w' := by
 refine ⟨hs.below.trans (hb.mono hs.below.size), ?_, fun j hj => ?_⟩
 · rw [hs.eq, show l.length - i = (l.length - (i + 1)) + 1 by omega, vfFrom, hx, if_pos rfl]
 · by_cases h1 : j = i
   · rw [h1]; exact hp
   · exact hs.has j (by omega)
set_option maxRecDepth 100000 in
set_option maxHeartbeats 2000000 in
theorem align_Verify.calls (A0 : Option Addr) (c0 : Nat) (l0 : List S59) (A1 : Option Addr) (c1 : Nat) (l1 : List S59) (a2 : Int) (A3 : Option Addr) (c3 : Nat) (l3 : List S25) (r : Int) (w : World) (hr0 : Kd.C k59 w A0 l0.length l0) (hc0 : l0.length ≤ c0) (hr1 : Kd.C k59 w A1 l1.length l1) (hc1 : l1.length ≤ c1) (hr3 : Kd.C k25 w A3 l3.length l3) (hc3 : l3.length ≤ c3) (hl : l3.length ≤ 1000000) (h : align_Verify.f l0 l1 a2 l3 = some r) :
  Calls Try.prog 30 #[.slice A0 l0.length c0, .slice A1 l1.length c1, .int .i64 a2, .slice A3 l3.length c3] w fun e w' => e = .returned (.int .i64 r) ∧ Below w.heap.size w w' := by
 have hu25 := Try.underlying25
 unfold align_Verify.f at h
 obtain ⟨e, he, h⟩ := Option.bind_eq_some_iff.1 h
 have HR0 := Aside0.mk hr0
 have HR1 := Aside0.mk hr1
 have HR3 := Aside0.mk hr3
 have HE := Aside0.mk he
 have HC := Aside0.mk (And.intro hc0 (And.intro hc1 hc3))
 have h1 := Option.some.inj h
 clear h he hr0 hr1 hr3 hc0 hc1 hc3
 by_cases h0 : e = 0
 · subst h0
   rw [if_pos rfl] at h1
   have HO := Aside0.mk (rolls_of HE.out)
   by_cases hn : l3.length = 0
   · unfold verF at h1
     rw [if_pos hn] at h1
     subst h1
     rw [hn]
     go_enter Try.func30, Try.ntmps30
     go_wp2_with fail
     refine (newTable_ok A0 c0 l0 A1 c1 l1 _ HR0.out HC.out.1 HR1.out HC.out.2.1 HE.out).mono ?_
     rintro e w1 ⟨g, rfl, hT, _, hb⟩
     have HB := Aside0.mk hb
     clear hT hb hn
     go_wp2
     go_ret
     exact ⟨rfl, HB.out⟩
   · have hnb : ((l3.length : Int) == 0) = false := beq_eq_false_iff_ne.mpr (by omega)
     have hnp : 0 < l3.length := Nat.pos_of_ne_zero hn
     unfold verF at h1
     rw [if_neg hn] at h1
     have HV := Aside0.mk h1
     clear h1
     go_enter Try.func30, Try.ntmps30
     go_wp2_with fail
     refine (newTable_ok A0 c0 l0 A1 c1 l1 _ HR0.out HC.out.1 HR1.out HC.out.2.1 HE.out).mono ?_
     rintro e w1 ⟨g, rfl, hT, _, hb⟩
     have HT := Aside0.mk hT
     have HB := Aside0.mk hb
     clear hT hb
     go_wp2
     go_loopw [29] (fun s29 wr => ∃ i : Nat, i ≤ l3.length ∧ s29 = .int .i64 i ∧ Aside0 (Vs l0 l1 a2 l3 i w1 wr)) (fun s29 _ => l3.length - (intOf s29).toNat)
     case atStart => exact ⟨0, by omega, rfl, ⟨Below.refl _ _, by simp, fun j hj => absurd hj (Nat.not_lt_zero j)⟩⟩
     case round =>
      obtain ⟨i, hi, rfl, HS⟩ := hrel
      have HTW := Aside0.mk (HT.out.below HS.out.below)
      by_cases hlt : i < l3.length
      · have hdec : decide ((i : Int) < (l3.length : Int)) = true := decide_eq_true (by omega)
        have hC := Kd.C_below (Kd.C_below HR3.out HB.out) (HS.out.below)
        obtain ⟨ad, rfl, x0, x1⟩ := at_T25 hC i (by omega) (by omega)
        have HCC := Aside0.mk hC
        clear hC
        obtain ⟨p, hp⟩ : ∃ p, rd_T25 l3 i = p := ⟨_, rfl⟩
        rw [hp, Int.toNat_natCast] at x0 x1
        have HP := Aside0.mk hp
        have hbb := below_alloc (Below.refl wr.heap.size wr) (.cells #[.int .i64 p.f0, .int .i64 p.f1] 25)
        have hbn := blk_new wr (.cells #[.int .i64 p.f0, .int .i64 p.f1] 25)
        have HBB := Aside0.mk (And.intro hbb hbn)
        have hcall := has_calls g l0 l1 p.f0 p.f1 _ (HTW.out.below hbb)
        generalize hz : hasP l0 l1 p.f0 p.f1 = z at hcall
        have HCALL := Aside0.mk hcall
        have HZ := Aside0.mk hz
        clear hp hbb hbn hcall hz
        cases z with
        | false =>
         go_wp2_with (go_at_call 46; refine HCALL.out.mono ?_; rintro e w2 ⟨rfl, hb2⟩; have HB2 := Aside0.mk hb2; clear hb2)
         go_ret
         have h8 : vfAt l0 l1 a2 l3 i = 8 := by unfold vfAt; rw [HP.out, if_pos HZ.out]
         have hv := HV.out
         rw [HS.out.err hlt h8 (by decide), if_neg (by decide)] at hv
         subst hv
         exact ⟨rfl, HB.out.trans ((HS.out.below.trans ((below_then HBB.out.1 HBB.out.1.size HB2.out).mono HS.out.below.size)).mono HB.out.size)⟩
        | true =>
         have hb13 := HBB.out.1
         by_cases hi0 : 0 < i
         · have hgt : decide ((i : Int) > 0) = true := decide_eq_true (by omega)
           have hgt2 : decide ((0 : Int) < i) = true := decide_eq_true (by omega)
           have e1 : wrap64 ((i : Int) - 1) = (i : Int) - 1 := by unfold wrap64; omega
           have e2 : 0 ≤ (i : Int) - 1 := by omega
           have e4 : (1 : Int) ≤ i := by omega
           have e5 : ((i - 1 : Nat) : Int) = (i : Int) - 1 := by omega
           have e3 : (i : Int) - 1 < (l3.length : Int) := by omega
           obtain ⟨ad2, had, y0, y1⟩ := at_T25 HCC.out ((i - 1 : Nat) : Int) (by omega) (by omega)
           cases had
           obtain ⟨q, hq⟩ : ∃ q, rd_T25 l3 ((i : Int) - 1) = q := ⟨_, rfl⟩
           have hqh : hasP l0 l1 q.f0 q.f1 = true := by
            have := HS.out.has (i - 1) (by omega)
            rw [show ((i - 1 : Nat) : Int) = (i : Int) - 1 by omega, hq] at this
            exact this
           have hqi := (hasP_iff l0 l1 _ _).1 hqh
           have HQI := Aside0.mk (show (0 ≤ q.f0 ∧ q.f0 ≤ 1000000) ∧ (0 ≤ q.f1 ∧ q.f1 ≤ 1000000) from ⟨⟨by omega, by have := HO.out.ha; omega⟩, ⟨by omega, by have := HO.out.hb; omega⟩⟩)
           rw [e5, hq] at y0 y1
           rw [show ((i : Int) - 1).toNat = i - 1 by omega] at y0 y1
           clear e5
           have HY := Aside0.mk (And.intro y0 y1)
           have HQ := Aside0.mk hq
           clear hq hqh hqi y0 y1
           generalize hz2 : preB q p = z2
           have HZ2 := Aside0.mk hz2
           clear hz2
           go_wp2_with (go_at_call 46; refine HCALL.out.mono ?_; rintro e w2 ⟨rfl, hb2⟩; have HX2 := Aside0.mk (blk_below HBB.out.2 hb2); have HW2 := Aside0.mk (below_then HBB.out.1 HBB.out.1.size hb2); clear hb2)
           have hwd : Below wr.heap.size wr w2.drew := below_then HW2.out HW2.out.size (pw_below_drewN (Below.refl _ _) 1)
           have KK := Aside0.mk (And.intro ((blk_cell HX2.out 0).trans rfl : w2.drew.cell? ⟨wr.heap.size, 0, none⟩ = some (.int .i64 p.f0)) (And.intro ((blk_cell HX2.out 1).trans rfl : w2.drew.cell? ⟨wr.heap.size, 1, none⟩ = some (.int .i64 p.f1)) (And.intro (pw_cell_below hwd HY.out.1) (pw_cell_below hwd HY.out.2))))
           have hprec := prec_calls q p w2.drew HQI.out.1 HQI.out.2
           rw [HZ2.out] at hprec
           have HPREC := Aside0.mk hprec
           have HWD := Aside0.mk hwd
           clear hprec hwd x0 x1
           refine start_ (n := 13) (S := fun w' => w'.cell? ⟨wr.heap.size, 0, none⟩ = some (.int .i64 p.f0) ∧ w'.cell? ⟨wr.heap.size, 1, none⟩ = some (.int .i64 p.f1) ∧ w'.cell? (ad.add ((i - 1) * 2)) = some (.int .i64 q.f0) ∧ w'.cell? ⟨(ad.add ((i - 1) * 2)).block, (ad.add ((i - 1) * 2)).off + 1, none⟩ = some (.int .i64 q.f1)) (ds := []) #[false, false, false, false, false, false, false, false, false, false, false, false, false] (by kernel_rfl) rfl rfl KK.out (fun hHeld => ?_)
           refine with_tabW ver11_tab ver11_bits (fun HT_ HW_ => ?_)
           refine take_ (i := 0) (N := some 40) (v := ?_) (a' := ?_) #[true, false, false, false, false, false, false, false, false, false, false, false, false] rfl rfl (take_ofW HT_.out HW_.out (by kernel_rfl)) (fun _ _ _ h => h) (Or.inl ⟨by rfl, ?_⟩) hHeld ?_ ?_
           rotate_left
           · rintro w' ⟨s0, s1, s2, s3⟩
             go_simp
             with_reducible rfl
           rotate_left
           · simp only [Act.put, List.setIfInBounds_toArray, List.set_cons_zero, List.set_cons_succ, i64_w, i32_w]
             rfl
           refine take_ (i := 1) (N := some 41) (v := ?_) (a' := ?_) #[true, true, false, false, false, false, false, false, false, false, false, false, false] rfl rfl (take_ofW HT_.out HW_.out (by kernel_rfl)) (fun _ _ _ h => h) (Or.inl ⟨by rfl, ?_⟩) hHeld ?_ ?_
           rotate_left
           · rintro w' ⟨s0, s1, s2, s3⟩
             go_simp
             with_reducible rfl
           rotate_left
           · simp only [Act.put, List.setIfInBounds_toArray, List.set_cons_zero, List.set_cons_succ, i64_w, i32_w]
             rfl
           refine take_ (i := 2) (N := some 42) (v := ?_) (a' := ?_) #[true, true, true, false, false, false, false, false, false, false, false, false, false] rfl rfl (take_ofW HT_.out HW_.out (by kernel_rfl)) (fun _ _ _ h => h) (Or.inl ⟨by rfl, ?_⟩) hHeld ?_ ?_
           rotate_left
           · rintro w' ⟨s0, s1, s2, s3⟩
             go_simp
             with_reducible rfl
           rotate_left
           · simp only [Act.put, List.setIfInBounds_toArray, List.set_cons_zero, List.set_cons_succ, i64_w, i32_w]
             rfl
           refine take_ (i := 3) (N := some 43) (v := ?_) (a' := ?_) #[true, true, true, true, false, false, false, false, false, false, false, false, false] rfl rfl (take_ofW HT_.out HW_.out (by kernel_rfl)) (fun _ _ _ h => h) (Or.inl ⟨by rfl, ?_⟩) hHeld ?_ ?_
           rotate_left
           · rintro w' ⟨s0, s1, s2, s3⟩
             go_simp
             with_reducible rfl
           rotate_left
           · simp only [Act.put, List.setIfInBounds_toArray, List.set_cons_zero, List.set_cons_succ, i64_w, i32_w]
             rfl
           refine take_ (i := 4) (N := some 44) (v := ?_) (a' := ?_) #[true, true, true, true, true, false, false, false, false, false, false, false, false] rfl rfl (take_ofW HT_.out HW_.out (by kernel_rfl)) (fun _ _ _ h => h) (Or.inl ⟨by rfl, ?_⟩) hHeld ?_ ?_
           rotate_left
           · rintro w' ⟨s0, s1, s2, s3⟩
             go_simp
             with_reducible rfl
           rotate_left
           · simp only [Act.put, List.setIfInBounds_toArray, List.set_cons_zero, List.set_cons_succ, i64_w, i32_w]
             rfl
           refine take_ (i := 5) (N := some 45) (v := ?_) (a' := ?_) #[true, true, true, true, true, true, false, false, false, false, false, false, false] rfl rfl (take_ofW HT_.out HW_.out (by kernel_rfl)) (fun _ _ _ h => h) (Or.inl ⟨by rfl, ?_⟩) hHeld ?_ ?_
           rotate_left
           · rintro w' ⟨s0, s1, s2, s3⟩
             go_simp
             with_reducible rfl
           rotate_left
           · simp only [Act.put, List.setIfInBounds_toArray, List.set_cons_zero, List.set_cons_succ, i64_w, i32_w]
             rfl
           refine take_ (i := 6) (N := some 46) (v := ?_) (a' := ?_) #[true, true, true, true, true, true, true, false, false, false, false, false, false] rfl rfl (take_ofW HT_.out HW_.out (by kernel_rfl)) (fun _ _ _ h => h) (Or.inl ⟨by rfl, ?_⟩) hHeld ?_ ?_
           rotate_left
           · rintro w' ⟨s0, s1, s2, s3⟩
             go_simp
             with_reducible rfl
           rotate_left
           · simp only [Act.put, List.setIfInBounds_toArray, List.set_cons_zero, List.set_cons_succ, i64_w, i32_w]
             rfl
           refine take_ (i := 7) (N := some 47) (v := ?_) (a' := ?_) #[true, true, true, true, true, true, true, true, false, false, false, false, false] rfl rfl (take_ofW HT_.out HW_.out (by kernel_rfl)) (fun _ _ _ h => h) (Or.inl ⟨by rfl, ?_⟩) hHeld ?_ ?_
           rotate_left
           · rintro w' ⟨s0, s1, s2, s3⟩
             go_simp
             with_reducible rfl
           rotate_left
           · simp only [Act.put, List.setIfInBounds_toArray, List.set_cons_zero, List.set_cons_succ, i64_w, i32_w]
             rfl
           refine take_ (i := 8) (N := some 48) (v := ?_) (a' := ?_) #[true, true, true, true, true, true, true, true, true, false, false, false, false] rfl rfl (take_ofW HT_.out HW_.out (by kernel_rfl)) (fun _ _ _ h => h) (Or.inl ⟨by rfl, ?_⟩) hHeld ?_ ?_
           rotate_left
           · rintro w' ⟨s0, s1, s2, s3⟩
             go_simp
             with_reducible rfl
           rotate_left
           · simp only [Act.put, List.setIfInBounds_toArray, List.set_cons_zero, List.set_cons_succ, i64_w, i32_w]
             rfl
           refine one_ (i := 9) (N := some 49) #[true, true, true, true, true, true, true, true, true, true, false, false, false] rfl rfl (one_of HT_.out (by kernel_rfl)) (by decide) (fun K hK => ?_)
           refine goes_ Try.func61 (by kernel_rfl) rfl #[.agg #[.int .i64 q.f0, .int .i64 q.f1], .agg #[.int .i64 p.f0, .int .i64 p.f1]] (by rfl) rfl rfl (by (try simp only [List.map_toArray, List.map_cons, List.map_nil]); first | done | rfl) ?_
           refine (HPREC.out).mono ?_
           rintro e w3 ⟨rfl, hbb⟩
           refine ⟨_, rfl, ?_⟩
           replace KK := Aside0.mk (And.intro (pw_cell_below hbb KK.out.1) (And.intro (pw_cell_below hbb KK.out.2.1) (And.intro (pw_cell_below hbb KK.out.2.2.1) (pw_cell_below hbb KK.out.2.2.2))))
           have HB3 := Aside0.mk hbb
           clear hbb
           refine hK.out _ _ KK.out (fun hHeld => ?_)
           clear hK K
           refine norm_ (a' := ?_) ?_ ?_
           rotate_left
           · show Act.put _ (some 49) _ = _
             simp only [Act.put, List.setIfInBounds_toArray, List.set_cons_zero, List.set_cons_succ, i64_w, i32_w]
             rfl
           refine take_ (i := 10) (N := some 50) (v := ?_) (a' := ?_) #[true, true, true, true, true, true, true, true, true, true, true, false, false] rfl rfl (take_ofW HT_.out HW_.out (by kernel_rfl)) (fun _ _ _ h => h) (Or.inl ⟨by rfl, ?_⟩) hHeld ?_ ?_
           rotate_left
           · rintro w' ⟨s0, s1, s2, s3⟩
             go_simp
             with_reducible rfl
           rotate_left
           · simp only [Act.put, List.setIfInBounds_toArray, List.set_cons_zero, List.set_cons_succ, i64_w, i32_w]
             rfl
           refine take_ (i := 11) (N := some 51) (v := ?_) (a' := ?_) #[true, true, true, true, true, true, true, true, true, true, true, true, false] rfl rfl (take_ofW HT_.out HW_.out (by kernel_rfl)) (fun _ _ _ h => h) (Or.inl ⟨by rfl, ?_⟩) hHeld ?_ ?_
           rotate_left
           · rintro w' ⟨s0, s1, s2, s3⟩
             go_simp
             with_reducible rfl
           rotate_left
           · simp only [Act.put, List.setIfInBounds_toArray, List.set_cons_zero, List.set_cons_succ, i64_w, i32_w]
             rfl
           refine take_ (i := 12) (N := some 39) (v := ?_) (a' := ?_) #[true, true, true, true, true, true, true, true, true, true, true, true, true] rfl rfl (take_ofW HT_.out HW_.out (by kernel_rfl)) (fun _ _ _ h => h) (Or.inl ⟨by rfl, ?_⟩) hHeld ?_ ?_
           rotate_left
           · rintro w' ⟨s0, s1, s2, s3⟩
             go_simp
             with_reducible rfl
           rotate_left
           · simp only [Act.put, List.setIfInBounds_toArray, List.set_cons_zero, List.set_cons_succ, i64_w, i32_w]
             rfl
           refine done_ (done_of HT_.out (by kernel_rfl)) ?_
           have HW3 := Aside0.mk (below_then HWD.out HWD.out.size HB3.out)
           cases z2 with
           | false =>
            go_wp2
            go_ret
            have h13 : vfAt l0 l1 a2 l3 i = 13 := by unfold vfAt; rw [HP.out, HQ.out, if_neg (by rw [HZ.out]; decide), if_pos ⟨hi0, HZ2.out⟩]
            have hv := HV.out
            rw [HS.out.err hlt h13 (by decide), if_neg (by decide)] at hv
            subst hv
            exact ⟨rfl, HB.out.trans ((HS.out.below.trans (HW3.out.mono HS.out.below.size)).mono HB.out.size)⟩
           | true =>
            have hpp := (hasP_iff l0 l1 _ _).1 HZ.out
            have hfar := fun X => far_calls g l0 l1 p.f0 p.f1 X
            by_cases hle : farD (rd_T59 l0 p.f0) (rd_T59 l1 p.f1) ≤ a2
            · have hlb : decide (farD (rd_T59 l0 p.f0) (rd_T59 l1 p.f1) ≤ a2) = true := decide_eq_true hle
              have HLE := Aside0.mk hle
              clear hle
              go_wp2_with (go_at_call 47; refine (far_calls g l0 l1 p.f0 p.f1 _ (HTW.out.below HW3.out) HO.out hpp.1.1 hpp.1.2 hpp.2.1 hpp.2.2).mono ?_; rintro e w4 ⟨rfl, hb4⟩; have HW4 := Aside0.mk (below_then HW3.out HW3.out.size hb4); clear hb4)
              go_ret
              have h14 : vfAt l0 l1 a2 l3 (i) = 14 := by unfold vfAt; rw [HP.out, if_neg (by rw [HZ.out]; decide), if_neg (by rw [HQ.out, HZ2.out]; simp), if_pos HLE.out]
              have hv := HV.out
              rw [HS.out.err hlt h14 (by decide), if_neg (by decide)] at hv
              subst hv
              exact ⟨rfl, HB.out.trans ((HS.out.below.trans (HW4.out.mono HS.out.below.size)).mono HB.out.size)⟩
            · have hlb : decide (farD (rd_T59 l0 p.f0) (rd_T59 l1 p.f1) ≤ a2) = false := decide_eq_false hle
              have HLE := Aside0.mk hle
              clear hle
              go_wp2_with (go_at_call 47; refine (far_calls g l0 l1 p.f0 p.f1 _ (HTW.out.below HW3.out) HO.out hpp.1.1 hpp.1.2 hpp.2.1 hpp.2.2).mono ?_; rintro e w4 ⟨rfl, hb4⟩; have HW4 := Aside0.mk (below_then HW3.out HW3.out.size hb4); clear hb4)
              have h14 : vfAt l0 l1 a2 l3 (i) = 0 := by unfold vfAt; rw [HP.out, if_neg (by rw [HZ.out]; decide), if_neg (by rw [HQ.out, HZ2.out]; simp), if_neg (show ¬ (farD (rd_T59 l0 p.f0) (rd_T59 l1 p.f1) ≤ a2) from by have := HLE.out; omega)]
              refine ⟨⟨i + 1, by omega, by go_num, ⟨HS.out.next hlt h14 (by rw [HP.out]; exact HZ.out) HW4.out⟩⟩, by simp [intOf]; omega⟩
         · have hgt : decide ((i : Int) > 0) = false := decide_eq_false (by omega)
           have hgt2 : decide ((0 : Int) < i) = false := decide_eq_false (by omega)
           go_wp2_with (go_at_call 46; refine HCALL.out.mono ?_; rintro e w2 ⟨rfl, hb2⟩; have HX2 := Aside0.mk (blk_below HBB.out.2 hb2); have HW2 := Aside0.mk (below_then HBB.out.1 HBB.out.1.size hb2); clear hb2)
           have KK := Aside0.mk (And.intro ((blk_cell HX2.out 0).trans rfl : w2.drew.cell? ⟨wr.heap.size, 0, none⟩ = some (.int .i64 p.f0)) ((blk_cell HX2.out 1).trans rfl : w2.drew.cell? ⟨wr.heap.size, 1, none⟩ = some (.int .i64 p.f1)))
           have HW3 := Aside0.mk (show Below wr.heap.size wr w2.drew from below_then HW2.out HW2.out.size (pw_below_drewN (Below.refl _ _) 1))
           clear x0 x1
           refine start_ (n := 13) (S := fun w' => w'.cell? ⟨wr.heap.size, 0, none⟩ = some (.int .i64 p.f0) ∧ w'.cell? ⟨wr.heap.size, 1, none⟩ = some (.int .i64 p.f1)) (ds := []) #[false, false, false, false, false, false, false, false, false, false, false, false, false] (by kernel_rfl) rfl rfl KK.out (fun hHeld => ?_)
           refine with_tabW ver11_tab ver11_bits (fun HT_ HW_ => ?_)
           refine take_ (i := 0) (N := some 40) (v := ?_) (a' := ?_) #[true, false, false, false, false, false, false, false, false, false, false, false, false] rfl rfl (take_ofW HT_.out HW_.out (by kernel_rfl)) (fun _ _ _ h => h) (Or.inl ⟨by rfl, ?_⟩) hHeld ?_ ?_
           rotate_left
           · rintro w' ⟨s0, s1⟩
             go_simp
             with_reducible rfl
           rotate_left
           · simp only [Act.put, List.setIfInBounds_toArray, List.set_cons_zero, List.set_cons_succ, i64_w, i32_w]
             rfl
           refine take_ (i := 1) (N := some 41) (v := ?_) (a' := ?_) #[true, true, false, false, false, false, false, false, false, false, false, false, false] rfl rfl (take_ofW HT_.out HW_.out (by kernel_rfl)) (fun _ _ _ h => h) (Or.inl ⟨by rfl, ?_⟩) hHeld ?_ ?_
           rotate_left
           · rintro w' ⟨s0, s1⟩
             go_simp
             with_reducible rfl
           rotate_left
           · simp only [Act.put, List.setIfInBounds_toArray, List.set_cons_zero, List.set_cons_succ, i64_w, i32_w]
             rfl
           refine take_ (i := 2) (N := some 42) (v := ?_) (a' := ?_) #[true, true, true, false, false, false, false, false, false, false, false, false, false] rfl rfl (take_ofW HT_.out HW_.out (by kernel_rfl)) (fun _ _ _ h => h) (Or.inl ⟨by rfl, ?_⟩) hHeld ?_ ?_
           rotate_left
           · rintro w' ⟨s0, s1⟩
             go_simp
             with_reducible rfl
           rotate_left
           · simp only [Act.put, List.setIfInBounds_toArray, List.set_cons_zero, List.set_cons_succ, i64_w, i32_w]
             rfl
           refine take_ (i := 3) (N := some 43) (v := undef) (a' := ?_) #[true, true, true, true, false, false, false, false, false, false, false, false, false] rfl rfl (take_ofW HT_.out HW_.out (by kernel_rfl)) (fun _ _ _ h => h) (Or.inr ⟨by rfl, rfl⟩) hHeld ?_ ?_
           rotate_left
           · simp only [Act.put, List.setIfInBounds_toArray, List.set_cons_zero, List.set_cons_succ, i64_w, i32_w]
             rfl
           refine take_ (i := 4) (N := some 44) (v := undef) (a' := ?_) #[true, true, true, true, true, false, false, false, false, false, false, false, false] rfl rfl (take_ofW HT_.out HW_.out (by kernel_rfl)) (fun _ _ _ h => h) (Or.inr ⟨by rfl, rfl⟩) hHeld ?_ ?_
           rotate_left
           · simp only [Act.put, List.setIfInBounds_toArray, List.set_cons_zero, List.set_cons_succ, i64_w, i32_w]
             rfl
           refine take_ (i := 5) (N := some 45) (v := undef) (a' := ?_) #[true, true, true, true, true, true, false, false, false, false, false, false, false] rfl rfl (take_ofW HT_.out HW_.out (by kernel_rfl)) (fun _ _ _ h => h) (Or.inr ⟨by rfl, rfl⟩) hHeld ?_ ?_
           rotate_left
           · simp only [Act.put, List.setIfInBounds_toArray, List.set_cons_zero, List.set_cons_succ, i64_w, i32_w]
             rfl
           refine take_ (i := 6) (N := some 46) (v := undef) (a' := ?_) #[true, true, true, true, true, true, true, false, false, false, false, false, false] rfl rfl (take_ofW HT_.out HW_.out (by kernel_rfl)) (fun _ _ _ h => h) (Or.inr ⟨by rfl, rfl⟩) hHeld ?_ ?_
           rotate_left
           · simp only [Act.put, List.setIfInBounds_toArray, List.set_cons_zero, List.set_cons_succ, i64_w, i32_w]
             rfl
           refine take_ (i := 7) (N := some 47) (v := undef) (a' := ?_) #[true, true, true, true, true, true, true, true, false, false, false, false, false] rfl rfl (take_ofW HT_.out HW_.out (by kernel_rfl)) (fun _ _ _ h => h) (Or.inr ⟨by rfl, rfl⟩) hHeld ?_ ?_
           rotate_left
           · simp only [Act.put, List.setIfInBounds_toArray, List.set_cons_zero, List.set_cons_succ, i64_w, i32_w]
             rfl
           refine take_ (i := 8) (N := some 48) (v := undef) (a' := ?_) #[true, true, true, true, true, true, true, true, true, false, false, false, false] rfl rfl (take_ofW HT_.out HW_.out (by kernel_rfl)) (fun _ _ _ h => h) (Or.inr ⟨by rfl, rfl⟩) hHeld ?_ ?_
           rotate_left
           · simp only [Act.put, List.setIfInBounds_toArray, List.set_cons_zero, List.set_cons_succ, i64_w, i32_w]
             rfl
           refine take_ (i := 9) (N := some 49) (v := undef) (a' := ?_) #[true, true, true, true, true, true, true, true, true, true, false, false, false] rfl rfl (take_ofW HT_.out HW_.out (by kernel_rfl)) (fun _ _ _ h => h) (Or.inr ⟨by rfl, rfl⟩) hHeld ?_ ?_
           rotate_left
           · simp only [Act.put, List.setIfInBounds_toArray, List.set_cons_zero, List.set_cons_succ, i64_w, i32_w]
             rfl
           refine take_ (i := 10) (N := some 50) (v := undef) (a' := ?_) #[true, true, true, true, true, true, true, true, true, true, true, false, false] rfl rfl (take_ofW HT_.out HW_.out (by kernel_rfl)) (fun _ _ _ h => h) (Or.inr ⟨by rfl, rfl⟩) hHeld ?_ ?_
           rotate_left
           · simp only [Act.put, List.setIfInBounds_toArray, List.set_cons_zero, List.set_cons_succ, i64_w, i32_w]
             rfl
           refine take_ (i := 11) (N := some 51) (v := ?_) (a' := ?_) #[true, true, true, true, true, true, true, true, true, true, true, true, false] rfl rfl (take_ofW HT_.out HW_.out (by kernel_rfl)) (fun _ _ _ h => h) (Or.inl ⟨by rfl, ?_⟩) hHeld ?_ ?_
           rotate_left
           · rintro w' ⟨s0, s1⟩
             go_simp
             with_reducible rfl
           rotate_left
           · simp only [Act.put, List.setIfInBounds_toArray, List.set_cons_zero, List.set_cons_succ, i64_w, i32_w]
             rfl
           refine take_ (i := 12) (N := some 39) (v := ?_) (a' := ?_) #[true, true, true, true, true, true, true, true, true, true, true, true, true] rfl rfl (take_ofW HT_.out HW_.out (by kernel_rfl)) (fun _ _ _ h => h) (Or.inl ⟨by rfl, ?_⟩) hHeld ?_ ?_
           rotate_left
           · rintro w' ⟨s0, s1⟩
             go_simp
             with_reducible rfl
           rotate_left
           · simp only [Act.put, List.setIfInBounds_toArray, List.set_cons_zero, List.set_cons_succ, i64_w, i32_w]
             rfl
           refine done_ (done_of HT_.out (by kernel_rfl)) ?_
           have hpp := (hasP_iff l0 l1 _ _).1 HZ.out
           have hfar := fun X => far_calls g l0 l1 p.f0 p.f1 X
           by_cases hle : farD (rd_T59 l0 p.f0) (rd_T59 l1 p.f1) ≤ a2
           · have hlb : decide (farD (rd_T59 l0 p.f0) (rd_T59 l1 p.f1) ≤ a2) = true := decide_eq_true hle
             have HLE := Aside0.mk hle
             clear hle
             go_wp2_with (go_at_call 47; refine (far_calls g l0 l1 p.f0 p.f1 _ (HTW.out.below HW3.out) HO.out hpp.1.1 hpp.1.2 hpp.2.1 hpp.2.2).mono ?_; rintro e w4 ⟨rfl, hb4⟩; have HW4 := Aside0.mk (below_then HW3.out HW3.out.size hb4); clear hb4)
             go_ret
             have h14 : vfAt l0 l1 a2 l3 (i) = 14 := by unfold vfAt; rw [HP.out, if_neg (by rw [HZ.out]; decide), if_neg (fun h => hi0 h.1), if_pos HLE.out]
             have hv := HV.out
             rw [HS.out.err hlt h14 (by decide), if_neg (by decide)] at hv
             subst hv
             exact ⟨rfl, HB.out.trans ((HS.out.below.trans (HW4.out.mono HS.out.below.size)).mono HB.out.size)⟩
           · have hlb : decide (farD (rd_T59 l0 p.f0) (rd_T59 l1 p.f1) ≤ a2) = false := decide_eq_false hle
             have HLE := Aside0.mk hle
             clear hle
             go_wp2_with (go_at_call 47; refine (far_calls g l0 l1 p.f0 p.f1 _ (HTW.out.below HW3.out) HO.out hpp.1.1 hpp.1.2 hpp.2.1 hpp.2.2).mono ?_; rintro e w4 ⟨rfl, hb4⟩; have HW4 := Aside0.mk (below_then HW3.out HW3.out.size hb4); clear hb4)
             have h14 : vfAt l0 l1 a2 l3 (i) = 0 := by unfold vfAt; rw [HP.out, if_neg (by rw [HZ.out]; decide), if_neg (fun h => hi0 h.1), if_neg (show ¬ (farD (rd_T59 l0 p.f0) (rd_T59 l1 p.f1) ≤ a2) from by have := HLE.out; omega)]
             refine ⟨⟨i + 1, by omega, by go_num, ⟨HS.out.next hlt h14 (by rw [HP.out]; exact HZ.out) HW4.out⟩⟩, by simp [intOf]; omega⟩
      · have hdec : decide ((i : Int) < (l3.length : Int)) = false := decide_eq_false (by omega)
        obtain rfl : i = l3.length := by omega
        have hv := HV.out
        rw [HS.out.eq, Nat.sub_self, vfFrom, if_pos rfl] at hv
        have HV2 := Aside0.mk hv
        clear hv
        have hC := Kd.C_below (Kd.C_below HR3.out HB.out) (HS.out.below)
        obtain ⟨ad, rfl, x0, x1⟩ := at_T25 hC ((0 : Nat) : Int) (by omega) (by omega)
        obtain ⟨ad2, had, y0, y1⟩ := at_T25 hC ((l3.length - 1 : Nat) : Int) (by omega) (by omega)
        cases had
        have e5 : ((l3.length - 1 : Nat) : Int) = (l3.length : Int) - 1 := by omega
        have e1 : wrap64 ((l3.length : Int) - 1) = (l3.length : Int) - 1 := by unfold wrap64; omega
        have e2 : 0 ≤ (l3.length : Int) - 1 := by omega
        have e4 : (1 : Int) ≤ l3.length := by omega
        have e6 : 0 < (l3.length : Int) := by omega
        rw [Int.toNat_natCast] at x0 x1
        rw [e5, show ((l3.length : Int) - 1).toNat = l3.length - 1 by omega] at y0 y1
        clear e5
        have HY := Aside0.mk (And.intro y0 y1)
        clear y0 y1
        have hz0 : (rd_T25 l3 ((0 : Nat) : Int)) = rd_T25 l3 0 := rfl
        rw [hz0, Nat.zero_mul, Addr.add_zero'] at x0 x1
        generalize hp : rd_T25 l3 0 = p at x0 x1 HV2
        generalize hq : rd_T25 l3 ((l3.length : Int) - 1) = q at HY HV2
        clear hp hq hz0
        generalize hzb : begB l0 l1 p.f0 p.f1 = zb at HV2
        generalize hze : endB l0 l1 q.f0 q.f1 = ze at HV2
        have HZB := Aside0.mk hzb
        have HZE := Aside0.mk hze
        clear hzb hze
        cases zb with
        | false =>
         go_wp2_with (go_at_call 56; refine (begins_calls g l0 l1 _ _ _ HTW.out).mono ?_; rintro e w2 ⟨rfl, hb2⟩; rw [HZB.out]; have HB2 := Aside0.mk hb2; clear hb2)
         go_ret
         have hv := HV2.out
         rw [if_neg (by simp)] at hv
         subst hv
         exact ⟨rfl, HB.out.trans ((HS.out.below.trans (HB2.out.mono HS.out.below.size)).mono HB.out.size)⟩
        | true =>
         cases ze with
         | false =>
          go_wp2_with (first | (go_at_call 56; refine (begins_calls g l0 l1 _ _ _ HTW.out).mono ?_; rintro e w2 ⟨rfl, hb2⟩; rw [HZB.out]; have HB2 := Aside0.mk hb2; have y0 := pw_cell_below hb2 HY.out.1; have y1 := pw_cell_below hb2 HY.out.2; have HT2 := Aside0.mk (HTW.out.below hb2); clear hb2) | (go_at_call 59; refine (ends_calls g l0 l1 _ _ _ HT2.out).mono ?_; rintro e w3 ⟨rfl, hb3⟩; rw [HZE.out]; have HB3 := Aside0.mk (below_then HB2.out HB2.out.size hb3); clear hb3))
          go_ret
          have hv := HV2.out
          rw [if_neg (by simp)] at hv
          subst hv
          exact ⟨rfl, HB.out.trans ((HS.out.below.trans (HB3.out.mono HS.out.below.size)).mono HB.out.size)⟩
         | true =>
          go_wp2_with (first | (go_at_call 56; refine (begins_calls g l0 l1 _ _ _ HTW.out).mono ?_; rintro e w2 ⟨rfl, hb2⟩; rw [HZB.out]; have HB2 := Aside0.mk hb2; have y0 := pw_cell_below hb2 HY.out.1; have y1 := pw_cell_below hb2 HY.out.2; have HT2 := Aside0.mk (HTW.out.below hb2); clear hb2) | (go_at_call 59; refine (ends_calls g l0 l1 _ _ _ HT2.out).mono ?_; rintro e w3 ⟨rfl, hb3⟩; rw [HZE.out]; have HB3 := Aside0.mk (below_then HB2.out HB2.out.size hb3); clear hb3))
          go_ret
          have hv := HV2.out
          rw [if_pos (by simp)] at hv
          subst hv
          exact ⟨rfl, HB.out.trans ((HS.out.below.trans (HB3.out.mono HS.out.below.size)).mono HB.out.size)⟩
 · rw [if_neg h0] at h1
   subst h1
   have hb0 : (e != 0) = true := by simp [h0]
   have H0 := Aside0.mk h0
   clear h0
   go_enter Try.func30, Try.ntmps30
   go_wp2_with fail
   refine (newTable_no A0 c0 l0 A1 c1 l1 e _ HR0.out HC.out.1 HR1.out HC.out.2.1 HE.out H0.out).mono ?_
   rintro e w1 ⟨rfl, hb⟩
   have HB := Aside0.mk hb
   clear hb
   go_wp2
   go_ret
   exact ⟨rfl, HB.out⟩

end Go.Proofs.Ytkocigldchiifaa.H

/- A barrier is accepted. -/
namespace Go.Proofs.Ytkocigldchiifaa.H
open Go.RowKit Go.Proofs.YtkocigldchiifaaW.PrintWords Go.Proofs.YtkocigldchiifaaW.PrintLast Go.Proofs.YtkocigldchiifaaW.PrintMore
open Go.Shelf Go.Proofs.Ytkocigldchiifaa.QA
set_option linter.unusedVariables false
set_option linter.unusedSimpArgs false

theorem rd25 (l : List S25) (i : Nat) (h : i < l.length) : l[i]? = some (rd_T25 l i) := by
 unfold rd_T25
 rw [Int.toNat_natCast, List.getD_eq_getElem?_getD, List.getElem?_eq_getElem h]
 rfl
theorem vfFrom_zero (a b : List S59) (h : Int) (l : List S25) : ∀ (n i : Nat), (∀ j, i ≤ j → j < i + n → vfAt a b h l j = 0) → vfFrom a b h l n i = 0
 | 0, _, _ => rfl
 | n + 1, i, hz => by
  rw [vfFrom, if_pos (hz i (Nat.le_refl _) (by omega))]
  exact vfFrom_zero a b h l n (i + 1) (fun j h1 h2 => hz j (by omega) (by omega))
theorem vfFrom_all (a b : List S59) (h : Int) (l : List S25) : ∀ (n i : Nat), vfFrom a b h l n i = 0 → ∀ j, i ≤ j → j < i + n → vfAt a b h l j = 0
 | 0, i, _, j, h1, h2 => by omega
 | n + 1, i, hz, j, h1, h2 => by
  rw [vfFrom] at hz
  split at hz
  · rename_i h0
    by_cases hj : j = i
    · rw [hj]; exact h0
    · exact vfFrom_all a b h l n (i + 1) hz j (by omega) (by omega)
  · rename_i h0
    exact absurd hz h0
theorem vfAt_zero (a b : List S59) (h : Int) (l : List S25) (i : Nat) : vfAt a b h l i = 0 ↔ rd_T25 l i ∈ aboveOf a b h ∧ (0 < i → preB (rd_T25 l ((i : Int) - 1)) (rd_T25 l i) = true) := by
 unfold vfAt
 rw [mem_above]
 constructor
 · intro hz
   split at hz
   · omega
   · rename_i h1
     split at hz
     · omega
     · rename_i h2
       split at hz
       · omega
       · rename_i h3
         refine ⟨⟨by simpa using h1, by omega⟩, fun hi => ?_⟩
         cases hp : preB (rd_T25 l ((i : Int) - 1)) (rd_T25 l i) with
         | true => rfl
         | false => exact absurd ⟨hi, hp⟩ h2
 · rintro ⟨⟨h1, h2⟩, h3⟩
   rw [if_neg (by rw [h1]; decide), if_neg (fun h4 => by rw [h3 h4.1] at h4; exact absurd h4.2 (by decide)), if_neg (by omega)]
/-- A list is accepted just if it is a barrier. -/
theorem verF_zero (a b : List S59) (h : Int) (l : List S25) : verF a b h l = 0 ↔ BarOK a b h l := by
 constructor
 · intro hv
   unfold verF at hv
   split at hv
   · omega
   · rename_i h0
     split at hv
     · rename_i h1
       split at hv
       · rename_i h2
         have hall : ∀ j, j < l.length → vfAt a b h l j = 0 := fun j hj => vfFrom_all a b h l l.length 0 h1 j (Nat.zero_le _) (by omega)
         refine ⟨fun e => h0 (by rw [e]; rfl), fun q hq => ?_, fun i p q hp hq => ?_, fun p hp => ?_, fun p hp => ?_⟩
         · obtain ⟨i, hi⟩ := List.getElem?_of_mem hq
           have hlt := (List.getElem?_eq_some_iff.1 hi).1
           rw [rd25 l i hlt] at hi
           rw [← Option.some.inj hi]
           exact ((vfAt_zero a b h l i).1 (hall i hlt)).1
         · have hlt := (List.getElem?_eq_some_iff.1 hq).1
           rw [rd25 l i (by omega)] at hp
           rw [rd25 l (i + 1) hlt] at hq
           have h3 := ((vfAt_zero a b h l (i + 1)).1 (hall _ hlt)).2 (by omega)
           rw [show ((i + 1 : Nat) : Int) - 1 = (i : Int) by omega, Option.some.inj hp, Option.some.inj hq] at h3
           exact h3
         · rw [rd25 l 0 (by omega)] at hp
           rw [← Option.some.inj hp]
           exact h2.1
         · rw [List.getLast?_eq_getElem?, rd25 l (l.length - 1) (by omega), show ((l.length - 1 : Nat) : Int) = (l.length : Int) - 1 by omega] at hp
           rw [← Option.some.inj hp]
           exact h2.2
       · omega
     · omega
 · intro hb
   have h0 : l.length ≠ 0 := fun e => hb.ne (List.eq_nil_of_length_eq_zero e)
   unfold verF
   rw [if_neg h0, if_pos, if_pos]
   · refine ⟨hb.beg _ (rd25 l 0 (by omega)), hb.fin _ ?_⟩
     rw [List.getLast?_eq_getElem?, rd25 l (l.length - 1) (by omega), show ((l.length - 1 : Nat) : Int) = (l.length : Int) - 1 by omega]
   · refine vfFrom_zero a b h l _ _ (fun j _ hj => (vfAt_zero a b h l j).2 ⟨hb.mem _ (List.mem_of_getElem? (rd25 l j (by omega))), fun hi => ?_⟩)
     refine hb.nxt (j - 1) _ _ ?_ ?_
     · rw [rd25 l (j - 1) (by omega), show ((j - 1 : Nat) : Int) = (j : Int) - 1 by omega]
     · rw [show j - 1 + 1 = j by omega]
       exact rd25 l j (by omega)

end Go.Proofs.Ytkocigldchiifaa.H

/- pianolalaw07.works: the examples of the chapter hold. Printed by gen_works07.py of this session. -/
namespace Go.Proofs.Ytkocigldchiifaa.H
open Go.RowKit Go.Proofs.YtkocigldchiifaaW.PrintWords Go.Proofs.YtkocigldchiifaaW.PrintLast Go.Proofs.YtkocigldchiifaaW.PrintMore
open Go.Shelf Go.Proofs.Ytkocigldchiifaa.QA
set_option linter.unusedVariables false
set_option linter.unusedSimpArgs false

instance decS25 : DecidableEq S25 := fun x y => decidable_of_iff (x.f0 = y.f0 ∧ x.f1 = y.f1) ⟨fun h => by
  obtain ⟨a, b⟩ := x
  obtain ⟨c, d⟩ := y
  simp only at h
  rw [h.1, h.2], fun h => by rw [h]; exact ⟨rfl, rfl⟩⟩
def rA : List S59 := [⟨40, 50, 0⟩, ⟨42, 60, 10⟩, ⟨44, 70, 12⟩]
def rB : List S59 := [⟨40, 52, 0⟩, ⟨42, 60, 11⟩, ⟨42, 61, 10⟩, ⟨44, 66, 12⟩]
def rC : List S59 := [⟨40, 50, 0⟩, ⟨44, 70, 10⟩]
def rW : List S25 := [⟨0, 0⟩, ⟨1, 1⟩, ⟨1, 2⟩, ⟨2, 3⟩]
theorem C_lit (W : World) (cs : Array Value) (l : List Int) (h : cs = (l.map (Value.int .i64)).toArray) {n : Nat} (hn : n = l.length) (hm : l.length ≤ 1000) : Kd.C (Kd.int .i64) (W.alloc (.cells cs 3)) (some ⟨W.heap.size, 0, none⟩) n l := by
  subst h
  subst hn
  refine Kd.C_of_reads (d := 0) ⟨rfl, by omega, fun _ => ⟨_, rfl, fun j hj => ?_⟩⟩
  rw [add_plain, World.cell?_alloc_at _ _ _ _ rfl]
  simp [hj, List.getD_eq_getElem?_getD]
theorem ver_ok {a b : List S59} {h : Int} {l : List S25} (he : align_Check.f a b = some 0) (hb : BarOK a b h l) : align_Verify.f a b h l = some 0 := by
  unfold align_Verify.f
  rw [he]
  show some (if (0 : Int) = 0 then verF a b h l else 0) = some 0
  rw [if_pos rfl, (verF_zero a b h l).2 hb]
theorem bar_yes {a b : List S59} {hh : Int} (p : S25) (hc : Chn a b hh p) (he : endB a b p.f0 p.f1 = true) {w0 : World} {e : Ending} {w' : World} (h : BarRes a b hh w0 e w') : Below w0.heap.size w0 w' ∧ ∃ v l, e = .returned (.tuple #[v, .int .i64 0]) ∧ Kd.R k25 25 w' w0.heap.size (fun _ => True) v l ∧ BarOK a b hh l ∧ l.length ≤ 1800 := by
  obtain ⟨hb, h | ⟨_, h⟩⟩ := h
  · exact ⟨hb, h⟩
  · rw [h p hc] at he; cases he
theorem bar_no {a b : List S59} {hh : Int} (hn : ∀ p, Chn a b hh p → endB a b p.f0 p.f1 = false) {w0 : World} {e : Ending} {w' : World} (h : BarRes a b hh w0 e w') : Below w0.heap.size w0 w' ∧ e = .returned (.tuple #[.slice none 0 0, .int .i64 8]) := by
  obtain ⟨hb, ⟨v, l, _, _, h, _⟩ | ⟨h, _⟩⟩ := h
  · obtain ⟨p, h1, h2⟩ := h.chn
    rw [hn p h1] at h2; cases h2
  · exact ⟨hb, h⟩
theorem bar_AB3 (A0 : Option Addr) (c0 : Nat) (A1 : Option Addr) (c1 : Nat) (w0 : World) (hr0 : Kd.C k59 w0 A0 rA.length rA) (hc0 : rA.length ≤ c0) (hr1 : Kd.C k59 w0 A1 rB.length rB) (hc1 : rB.length ≤ c1) :
  Calls Try.prog 26 #[.slice A0 rA.length c0, .slice A1 rB.length c1, .int .i64 3] w0 fun e w' => Below w0.heap.size w0 w' ∧ ∃ v l, e = .returned (.tuple #[v, .int .i64 0]) ∧ Kd.R k25 25 w' w0.heap.size (fun _ => True) v l ∧ BarOK rA rB 3 l ∧ l.length ≤ 1800 :=
  (barrier_ok A0 c0 rA A1 c1 rB 3 w0 hr0 hc0 hr1 hc1 (by decide +kernel)).mono fun e w' h => bar_yes (a := rA) (b := rB) ⟨2, 3⟩ (.beg ⟨2, 3⟩ (by decide +kernel) (by decide +kernel)) (by decide +kernel) h
theorem bar_AC (A0 : Option Addr) (c0 : Nat) (A1 : Option Addr) (c1 : Nat) (w0 : World) (hr0 : Kd.C k59 w0 A0 rA.length rA) (hc0 : rA.length ≤ c0) (hr1 : Kd.C k59 w0 A1 rC.length rC) (hc1 : rC.length ≤ c1) :
  Calls Try.prog 26 #[.slice A0 rA.length c0, .slice A1 rC.length c1, .int .i64 999999] w0 fun e w' => Below w0.heap.size w0 w' ∧ ∃ v l, e = .returned (.tuple #[v, .int .i64 0]) ∧ Kd.R k25 25 w' w0.heap.size (fun _ => True) v l ∧ BarOK rA rC 999999 l ∧ l.length ≤ 1800 :=
  (barrier_ok A0 c0 rA A1 c1 rC 999999 w0 hr0 hc0 hr1 hc1 (by decide +kernel)).mono fun e w' h => bar_yes (a := rA) (b := rC) ⟨1, 0⟩ (.step ⟨1, 1⟩ ⟨1, 0⟩ (.beg ⟨1, 1⟩ (by decide +kernel) (by decide +kernel)) (by decide +kernel) (by decide +kernel)) (by decide +kernel) h
theorem bar_AB4 (A0 : Option Addr) (c0 : Nat) (A1 : Option Addr) (c1 : Nat) (w0 : World) (hr0 : Kd.C k59 w0 A0 rA.length rA) (hc0 : rA.length ≤ c0) (hr1 : Kd.C k59 w0 A1 rB.length rB) (hc1 : rB.length ≤ c1) :
  Calls Try.prog 26 #[.slice A0 rA.length c0, .slice A1 rB.length c1, .int .i64 4] w0 fun e w' => Below w0.heap.size w0 w' ∧ e = .returned (.tuple #[.slice none 0 0, .int .i64 8]) :=
  (barrier_ok A0 c0 rA A1 c1 rB 4 w0 hr0 hc0 hr1 hc1 (by decide +kernel)).mono fun e w' h => bar_no (a := rA) (b := rB) (closed_none [⟨0, 1⟩, ⟨0, 2⟩, ⟨0, 3⟩, ⟨1, 3⟩] (by decide +kernel) (by decide +kernel)) h
def pianolalaw07_works.f : Option Bool := some true
set_option maxHeartbeats 8000000 in
set_option maxRecDepth 100000 in
theorem works_calls (w : World) : Calls Try.prog 15 #[] w fun e w' => e = .returned (.bool true) ∧ Below w.heap.size w w' := by
  have HB := Aside0.mk (Below.refl w.heap.size w)
  have hu25 := Try.underlying25
  go_enter Try.func15, Try.ntmps15
  go_wp2_with fail
  refine (pianolalaw07_A.calls rA _ rfl).mono ?_
  rintro e w1 ⟨v, rfl, hR, hb⟩
  have hbb := hb; clear hb
  have HB' := Aside0.mk (below_then HB.out HB.out.size hbb); clear HB; have HB := HB'; clear HB'
  clear hbb
  obtain ⟨Ar1, cr1, rfl, hcr1, hCr1⟩ := Kd.R_reads hR
  clear hR
  have HCr1 := Aside0.mk hCr1; clear hCr1
  go_wp2_with fail
  refine (pianolalaw07_B.calls rB _ rfl).mono ?_
  rintro e w2 ⟨v, rfl, hR, hb⟩
  have hbb := hb; clear hb
  have HB' := Aside0.mk (below_then HB.out HB.out.size hbb); clear HB; have HB := HB'; clear HB'
  have HCr1' := Aside0.mk (Kd.C_below HCr1.out hbb); clear HCr1; have HCr1 := HCr1'; clear HCr1'
  clear hbb
  obtain ⟨Ar2, cr2, rfl, hcr2, hCr2⟩ := Kd.R_reads hR
  clear hR
  have HCr2 := Aside0.mk hCr2; clear hCr2
  go_wp2_with fail
  refine (align_Distance.calls Ar1 cr1 rA Ar2 cr2 rB 1 2 1 0 _ HCr1.out hcr1 HCr2.out hcr2 (by decide +kernel)).mono ?_
  rintro e w3 ⟨rfl, hb⟩
  have hbb := hb; clear hb
  have HB' := Aside0.mk (below_then HB.out HB.out.size hbb); clear HB; have HB := HB'; clear HB'
  clear hbb
  clear HCr1 hcr1 HCr2 hcr2
  go_wp2_with fail
  refine (pianolalaw07_A.calls rA _ rfl).mono ?_
  rintro e w4 ⟨v, rfl, hR, hb⟩
  have hbb := hb; clear hb
  have HB' := Aside0.mk (below_then HB.out HB.out.size hbb); clear HB; have HB := HB'; clear HB'
  clear hbb
  obtain ⟨Ar3, cr3, rfl, hcr3, hCr3⟩ := Kd.R_reads hR
  clear hR
  have HCr3 := Aside0.mk hCr3; clear hCr3
  go_wp2_with fail
  refine (pianolalaw07_B.calls rB _ rfl).mono ?_
  rintro e w5 ⟨v, rfl, hR, hb⟩
  have hbb := hb; clear hb
  have HB' := Aside0.mk (below_then HB.out HB.out.size hbb); clear HB; have HB := HB'; clear HB'
  have HCr3' := Aside0.mk (Kd.C_below HCr3.out hbb); clear HCr3; have HCr3 := HCr3'; clear HCr3'
  clear hbb
  obtain ⟨Ar4, cr4, rfl, hcr4, hCr4⟩ := Kd.R_reads hR
  clear hR
  have HCr4 := Aside0.mk hCr4; clear hCr4
  go_wp2_with fail
  refine (align_Gap.calls Ar3 cr3 rA Ar4 cr4 rB 4 0 _ HCr3.out hcr3 HCr4.out hcr4 (by decide +kernel)).mono ?_
  rintro e w6 ⟨rfl, hb⟩
  have hbb := hb; clear hb
  have HB' := Aside0.mk (below_then HB.out HB.out.size hbb); clear HB; have HB := HB'; clear HB'
  clear hbb
  clear HCr3 hcr3 HCr4 hcr4
  go_wp2_with fail
  refine (pianolalaw07_A.calls rA _ rfl).mono ?_
  rintro e w7 ⟨v, rfl, hR, hb⟩
  have hbb := hb; clear hb
  have HB' := Aside0.mk (below_then HB.out HB.out.size hbb); clear HB; have HB := HB'; clear HB'
  clear hbb
  obtain ⟨Ar5, cr5, rfl, hcr5, hCr5⟩ := Kd.R_reads hR
  clear hR
  have HCr5 := Aside0.mk hCr5; clear hCr5
  go_wp2_with fail
  refine (pianolalaw07_C.calls rC _ rfl).mono ?_
  rintro e w8 ⟨v, rfl, hR, hb⟩
  have hbb := hb; clear hb
  have HB' := Aside0.mk (below_then HB.out HB.out.size hbb); clear HB; have HB := HB'; clear HB'
  have HCr5' := Aside0.mk (Kd.C_below HCr5.out hbb); clear HCr5; have HCr5 := HCr5'; clear HCr5'
  clear hbb
  obtain ⟨Ar6, cr6, rfl, hcr6, hCr6⟩ := Kd.R_reads hR
  clear hR
  have HCr6 := Aside0.mk hCr6; clear hCr6
  go_wp2_with fail
  refine (align_Gap.calls Ar5 cr5 rA Ar6 cr6 rC 1000000 0 _ HCr5.out hcr5 HCr6.out hcr6 (by decide +kernel)).mono ?_
  rintro e w9 ⟨rfl, hb⟩
  have hbb := hb; clear hb
  have HB' := Aside0.mk (below_then HB.out HB.out.size hbb); clear HB; have HB := HB'; clear HB'
  clear hbb
  clear HCr5 hcr5 HCr6 hcr6
  go_wp2_with fail
  refine (pianolalaw07_A.calls rA _ rfl).mono ?_
  rintro e w10 ⟨v, rfl, hR, hb⟩
  have hbb := hb; clear hb
  have HB' := Aside0.mk (below_then HB.out HB.out.size hbb); clear HB; have HB := HB'; clear HB'
  clear hbb
  obtain ⟨Ar7, cr7, rfl, hcr7, hCr7⟩ := Kd.R_reads hR
  clear hR
  have HCr7 := Aside0.mk hCr7; clear hCr7
  go_wp2_with fail
  refine (pianolalaw07_B.calls rB _ rfl).mono ?_
  rintro e w11 ⟨v, rfl, hR, hb⟩
  have hbb := hb; clear hb
  have HB' := Aside0.mk (below_then HB.out HB.out.size hbb); clear HB; have HB := HB'; clear HB'
  have HCr7' := Aside0.mk (Kd.C_below HCr7.out hbb); clear HCr7; have HCr7 := HCr7'; clear HCr7'
  clear hbb
  obtain ⟨Ar8, cr8, rfl, hcr8, hCr8⟩ := Kd.R_reads hR
  clear hR
  have HCr8 := Aside0.mk hCr8; clear hCr8
  go_wp2_with fail
  refine (align_Walk.calls Ar7 cr7 rA Ar8 cr8 rB rW 0 _ HCr7.out hcr7 HCr8.out hcr8 (by kernel_rfl)).mono ?_
  rintro e w12 ⟨v, rfl, hR, hb⟩
  have hbb := hb; clear hb
  have HB' := Aside0.mk (below_then HB.out HB.out.size hbb); clear HB; have HB := HB'; clear HB'
  clear hbb
  obtain ⟨Awk, cwk, rfl, hcwk, hCwk⟩ := Kd.R_reads hR
  clear hR
  have HCwk := Aside0.mk hCwk; clear hCwk
  clear HCr7 hcr7 HCr8 hcr8
  go_wp2_with fail
  refine (pianolalaw07_A.calls rA _ rfl).mono ?_
  rintro e w13 ⟨v, rfl, hR, hb⟩
  have hbb := hb; clear hb
  have HB' := Aside0.mk (below_then HB.out HB.out.size hbb); clear HB; have HB := HB'; clear HB'
  have HCwk' := Aside0.mk (Kd.C_below HCwk.out hbb); clear HCwk; have HCwk := HCwk'; clear HCwk'
  clear hbb
  obtain ⟨Ar9, cr9, rfl, hcr9, hCr9⟩ := Kd.R_reads hR
  clear hR
  have HCr9 := Aside0.mk hCr9; clear hCr9
  go_wp2_with fail
  refine (pianolalaw07_B.calls rB _ rfl).mono ?_
  rintro e w14 ⟨v, rfl, hR, hb⟩
  have hbb := hb; clear hb
  have HB' := Aside0.mk (below_then HB.out HB.out.size hbb); clear HB; have HB := HB'; clear HB'
  have HCwk' := Aside0.mk (Kd.C_below HCwk.out hbb); clear HCwk; have HCwk := HCwk'; clear HCwk'
  have HCr9' := Aside0.mk (Kd.C_below HCr9.out hbb); clear HCr9; have HCr9 := HCr9'; clear HCr9'
  clear hbb
  obtain ⟨Ar10, cr10, rfl, hcr10, hCr10⟩ := Kd.R_reads hR
  clear hR
  have HCr10 := Aside0.mk hCr10; clear hCr10
  go_wp2_with fail
  refine (align_Walks.calls Ar9 cr9 rA Ar10 cr10 rB 4 1 0 _ HCr9.out hcr9 HCr10.out hcr10 (by decide +kernel)).mono ?_
  rintro e w15 ⟨rfl, hb⟩
  have hbb := hb; clear hb
  have HB' := Aside0.mk (below_then HB.out HB.out.size hbb); clear HB; have HB := HB'; clear HB'
  have HCwk' := Aside0.mk (Kd.C_below HCwk.out hbb); clear HCwk; have HCwk := HCwk'; clear HCwk'
  clear hbb
  clear HCr9 hcr9 HCr10 hcr10
  go_wp2_with fail
  refine (pianolalaw07_A.calls rA _ rfl).mono ?_
  rintro e w16 ⟨v, rfl, hR, hb⟩
  have hbb := hb; clear hb
  have HB' := Aside0.mk (below_then HB.out HB.out.size hbb); clear HB; have HB := HB'; clear HB'
  have HCwk' := Aside0.mk (Kd.C_below HCwk.out hbb); clear HCwk; have HCwk := HCwk'; clear HCwk'
  clear hbb
  obtain ⟨Ar11, cr11, rfl, hcr11, hCr11⟩ := Kd.R_reads hR
  clear hR
  have HCr11 := Aside0.mk hCr11; clear hCr11
  go_wp2_with fail
  refine (pianolalaw07_B.calls rB _ rfl).mono ?_
  rintro e w17 ⟨v, rfl, hR, hb⟩
  have hbb := hb; clear hb
  have HB' := Aside0.mk (below_then HB.out HB.out.size hbb); clear HB; have HB := HB'; clear HB'
  have HCwk' := Aside0.mk (Kd.C_below HCwk.out hbb); clear HCwk; have HCwk := HCwk'; clear HCwk'
  have HCr11' := Aside0.mk (Kd.C_below HCr11.out hbb); clear HCr11; have HCr11 := HCr11'; clear HCr11'
  clear hbb
  obtain ⟨Ar12, cr12, rfl, hcr12, hCr12⟩ := Kd.R_reads hR
  clear hR
  have HCr12 := Aside0.mk hCr12; clear hCr12
  go_wp2_with fail
  refine (align_Walks.calls Ar11 cr11 rA Ar12 cr12 rB 1000000 25 0 _ HCr11.out hcr11 HCr12.out hcr12 (by decide +kernel)).mono ?_
  rintro e w18 ⟨rfl, hb⟩
  have hbb := hb; clear hb
  have HB' := Aside0.mk (below_then HB.out HB.out.size hbb); clear HB; have HB := HB'; clear HB'
  have HCwk' := Aside0.mk (Kd.C_below HCwk.out hbb); clear HCwk; have HCwk := HCwk'; clear HCwk'
  clear hbb
  clear HCr11 hcr11 HCr12 hcr12
  go_wp2_with fail
  refine (pianolalaw07_A.calls rA _ rfl).mono ?_
  rintro e w19 ⟨v, rfl, hR, hb⟩
  have hbb := hb; clear hb
  have HB' := Aside0.mk (below_then HB.out HB.out.size hbb); clear HB; have HB := HB'; clear HB'
  have HCwk' := Aside0.mk (Kd.C_below HCwk.out hbb); clear HCwk; have HCwk := HCwk'; clear HCwk'
  clear hbb
  obtain ⟨Ar13, cr13, rfl, hcr13, hCr13⟩ := Kd.R_reads hR
  clear hR
  have HCr13 := Aside0.mk hCr13; clear hCr13
  go_wp2_with fail
  refine (pianolalaw07_B.calls rB _ rfl).mono ?_
  rintro e w20 ⟨v, rfl, hR, hb⟩
  have hbb := hb; clear hb
  have HB' := Aside0.mk (below_then HB.out HB.out.size hbb); clear HB; have HB := HB'; clear HB'
  have HCwk' := Aside0.mk (Kd.C_below HCwk.out hbb); clear HCwk; have HCwk := HCwk'; clear HCwk'
  have HCr13' := Aside0.mk (Kd.C_below HCr13.out hbb); clear HCr13; have HCr13 := HCr13'; clear HCr13'
  clear hbb
  obtain ⟨Ar14, cr14, rfl, hcr14, hCr14⟩ := Kd.R_reads hR
  clear hR
  have HCr14 := Aside0.mk hCr14; clear hCr14
  go_wp2_with fail
  refine (bar_AB3 Ar13 cr13 Ar14 cr14 _ HCr13.out hcr13 HCr14.out hcr14).mono ?_
  rintro e w21 ⟨hb, v, l1, rfl, hR, hbar1, hlen1⟩
  have hbb := hb; clear hb
  have HB' := Aside0.mk (below_then HB.out HB.out.size hbb); clear HB; have HB := HB'; clear HB'
  have HCwk' := Aside0.mk (Kd.C_below HCwk.out hbb); clear HCwk; have HCwk := HCwk'; clear HCwk'
  clear hbb
  obtain ⟨Ax1, cx1, rfl, hcx1, hCx1⟩ := Kd.R_reads hR
  clear hR
  have HCx1 := Aside0.mk hCx1; clear hCx1
  clear HCr13 hcr13 HCr14 hcr14
  have HBAR1 := Aside0.mk (And.intro hbar1 hlen1); clear hbar1 hlen1
  go_wp2_with fail
  refine (pianolalaw07_A.calls rA _ rfl).mono ?_
  rintro e w22 ⟨v, rfl, hR, hb⟩
  have hbb := hb; clear hb
  have HB' := Aside0.mk (below_then HB.out HB.out.size hbb); clear HB; have HB := HB'; clear HB'
  have HCwk' := Aside0.mk (Kd.C_below HCwk.out hbb); clear HCwk; have HCwk := HCwk'; clear HCwk'
  have HCx1' := Aside0.mk (Kd.C_below HCx1.out hbb); clear HCx1; have HCx1 := HCx1'; clear HCx1'
  clear hbb
  obtain ⟨Ar15, cr15, rfl, hcr15, hCr15⟩ := Kd.R_reads hR
  clear hR
  have HCr15 := Aside0.mk hCr15; clear hCr15
  go_wp2_with fail
  refine (pianolalaw07_C.calls rC _ rfl).mono ?_
  rintro e w23 ⟨v, rfl, hR, hb⟩
  have hbb := hb; clear hb
  have HB' := Aside0.mk (below_then HB.out HB.out.size hbb); clear HB; have HB := HB'; clear HB'
  have HCwk' := Aside0.mk (Kd.C_below HCwk.out hbb); clear HCwk; have HCwk := HCwk'; clear HCwk'
  have HCx1' := Aside0.mk (Kd.C_below HCx1.out hbb); clear HCx1; have HCx1 := HCx1'; clear HCx1'
  have HCr15' := Aside0.mk (Kd.C_below HCr15.out hbb); clear HCr15; have HCr15 := HCr15'; clear HCr15'
  clear hbb
  obtain ⟨Ar16, cr16, rfl, hcr16, hCr16⟩ := Kd.R_reads hR
  clear hR
  have HCr16 := Aside0.mk hCr16; clear hCr16
  go_wp2_with fail
  refine (bar_AC Ar15 cr15 Ar16 cr16 _ HCr15.out hcr15 HCr16.out hcr16).mono ?_
  rintro e w24 ⟨hb, v, l2, rfl, hR, hbar2, hlen2⟩
  have hbb := hb; clear hb
  have HB' := Aside0.mk (below_then HB.out HB.out.size hbb); clear HB; have HB := HB'; clear HB'
  have HCwk' := Aside0.mk (Kd.C_below HCwk.out hbb); clear HCwk; have HCwk := HCwk'; clear HCwk'
  have HCx1' := Aside0.mk (Kd.C_below HCx1.out hbb); clear HCx1; have HCx1 := HCx1'; clear HCx1'
  clear hbb
  obtain ⟨Ax2, cx2, rfl, hcx2, hCx2⟩ := Kd.R_reads hR
  clear hR
  have HCx2 := Aside0.mk hCx2; clear hCx2
  clear HCr15 hcr15 HCr16 hcr16
  have HBAR2 := Aside0.mk (And.intro hbar2 hlen2); clear hbar2 hlen2
  go_wp2_with fail
  refine (pianolalaw07_A.calls rA _ rfl).mono ?_
  rintro e w25 ⟨v, rfl, hR, hb⟩
  have hbb := hb; clear hb
  have HB' := Aside0.mk (below_then HB.out HB.out.size hbb); clear HB; have HB := HB'; clear HB'
  have HCwk' := Aside0.mk (Kd.C_below HCwk.out hbb); clear HCwk; have HCwk := HCwk'; clear HCwk'
  have HCx1' := Aside0.mk (Kd.C_below HCx1.out hbb); clear HCx1; have HCx1 := HCx1'; clear HCx1'
  have HCx2' := Aside0.mk (Kd.C_below HCx2.out hbb); clear HCx2; have HCx2 := HCx2'; clear HCx2'
  clear hbb
  obtain ⟨Ar17, cr17, rfl, hcr17, hCr17⟩ := Kd.R_reads hR
  clear hR
  have HCr17 := Aside0.mk hCr17; clear hCr17
  go_wp2_with fail
  refine (pianolalaw07_B.calls rB _ rfl).mono ?_
  rintro e w26 ⟨v, rfl, hR, hb⟩
  have hbb := hb; clear hb
  have HB' := Aside0.mk (below_then HB.out HB.out.size hbb); clear HB; have HB := HB'; clear HB'
  have HCwk' := Aside0.mk (Kd.C_below HCwk.out hbb); clear HCwk; have HCwk := HCwk'; clear HCwk'
  have HCx1' := Aside0.mk (Kd.C_below HCx1.out hbb); clear HCx1; have HCx1 := HCx1'; clear HCx1'
  have HCx2' := Aside0.mk (Kd.C_below HCx2.out hbb); clear HCx2; have HCx2 := HCx2'; clear HCx2'
  have HCr17' := Aside0.mk (Kd.C_below HCr17.out hbb); clear HCr17; have HCr17 := HCr17'; clear HCr17'
  clear hbb
  obtain ⟨Ar18, cr18, rfl, hcr18, hCr18⟩ := Kd.R_reads hR
  clear hR
  have HCr18 := Aside0.mk hCr18; clear hCr18
  go_wp2_with fail
  refine (align_Verify.calls Ar17 cr17 rA Ar18 cr18 rB 3 Ax1 cx1 l1 0 _ HCr17.out hcr17 HCr18.out hcr18 HCx1.out hcx1 (by have := HBAR1.out.2; omega) (ver_ok (by decide +kernel) HBAR1.out.1)).mono ?_
  rintro e w27 ⟨rfl, hb⟩
  have hbb := hb; clear hb
  have HB' := Aside0.mk (below_then HB.out HB.out.size hbb); clear HB; have HB := HB'; clear HB'
  have HCwk' := Aside0.mk (Kd.C_below HCwk.out hbb); clear HCwk; have HCwk := HCwk'; clear HCwk'
  have HCx2' := Aside0.mk (Kd.C_below HCx2.out hbb); clear HCx2; have HCx2 := HCx2'; clear HCx2'
  clear hbb
  clear HCr17 hcr17 HCr18 hcr18 HCx1 hcx1
  go_wp2_with fail
  refine (pianolalaw07_A.calls rA _ rfl).mono ?_
  rintro e w28 ⟨v, rfl, hR, hb⟩
  have hbb := hb; clear hb
  have HB' := Aside0.mk (below_then HB.out HB.out.size hbb); clear HB; have HB := HB'; clear HB'
  have HCwk' := Aside0.mk (Kd.C_below HCwk.out hbb); clear HCwk; have HCwk := HCwk'; clear HCwk'
  have HCx2' := Aside0.mk (Kd.C_below HCx2.out hbb); clear HCx2; have HCx2 := HCx2'; clear HCx2'
  clear hbb
  obtain ⟨Ar19, cr19, rfl, hcr19, hCr19⟩ := Kd.R_reads hR
  clear hR
  have HCr19 := Aside0.mk hCr19; clear hCr19
  go_wp2_with fail
  refine (pianolalaw07_C.calls rC _ rfl).mono ?_
  rintro e w29 ⟨v, rfl, hR, hb⟩
  have hbb := hb; clear hb
  have HB' := Aside0.mk (below_then HB.out HB.out.size hbb); clear HB; have HB := HB'; clear HB'
  have HCwk' := Aside0.mk (Kd.C_below HCwk.out hbb); clear HCwk; have HCwk := HCwk'; clear HCwk'
  have HCx2' := Aside0.mk (Kd.C_below HCx2.out hbb); clear HCx2; have HCx2 := HCx2'; clear HCx2'
  have HCr19' := Aside0.mk (Kd.C_below HCr19.out hbb); clear HCr19; have HCr19 := HCr19'; clear HCr19'
  clear hbb
  obtain ⟨Ar20, cr20, rfl, hcr20, hCr20⟩ := Kd.R_reads hR
  clear hR
  have HCr20 := Aside0.mk hCr20; clear hCr20
  go_wp2_with fail
  refine (align_Verify.calls Ar19 cr19 rA Ar20 cr20 rC 999999 Ax2 cx2 l2 0 _ HCr19.out hcr19 HCr20.out hcr20 HCx2.out hcx2 (by have := HBAR2.out.2; omega) (ver_ok (by decide +kernel) HBAR2.out.1)).mono ?_
  rintro e w30 ⟨rfl, hb⟩
  have hbb := hb; clear hb
  have HB' := Aside0.mk (below_then HB.out HB.out.size hbb); clear HB; have HB := HB'; clear HB'
  have HCwk' := Aside0.mk (Kd.C_below HCwk.out hbb); clear HCwk; have HCwk := HCwk'; clear HCwk'
  clear hbb
  clear HCr19 hcr19 HCr20 hcr20 HCx2 hcx2
  go_wp2_with fail
  refine (pianolalaw07_A.calls rA _ rfl).mono ?_
  rintro e w31 ⟨v, rfl, hR, hb⟩
  have hbb := hb; clear hb
  have HB' := Aside0.mk (below_then HB.out HB.out.size hbb); clear HB; have HB := HB'; clear HB'
  have HCwk' := Aside0.mk (Kd.C_below HCwk.out hbb); clear HCwk; have HCwk := HCwk'; clear HCwk'
  clear hbb
  obtain ⟨Ar21, cr21, rfl, hcr21, hCr21⟩ := Kd.R_reads hR
  clear hR
  have HCr21 := Aside0.mk hCr21; clear hCr21
  go_wp2_with fail
  refine (pianolalaw07_B.calls rB _ rfl).mono ?_
  rintro e w32 ⟨v, rfl, hR, hb⟩
  have hbb := hb; clear hb
  have HB' := Aside0.mk (below_then HB.out HB.out.size hbb); clear HB; have HB := HB'; clear HB'
  have HCwk' := Aside0.mk (Kd.C_below HCwk.out hbb); clear HCwk; have HCwk := HCwk'; clear HCwk'
  have HCr21' := Aside0.mk (Kd.C_below HCr21.out hbb); clear HCr21; have HCr21 := HCr21'; clear HCr21'
  clear hbb
  obtain ⟨Ar22, cr22, rfl, hcr22, hCr22⟩ := Kd.R_reads hR
  clear hR
  have HCr22 := Aside0.mk hCr22; clear hCr22
  go_wp2_with fail
  refine (bar_AB4 Ar21 cr21 Ar22 cr22 _ HCr21.out hcr21 HCr22.out hcr22).mono ?_
  rintro e w33 ⟨hb, rfl⟩
  have hbb := hb; clear hb
  have HB' := Aside0.mk (below_then HB.out HB.out.size hbb); clear HB; have HB := HB'; clear HB'
  have HCwk' := Aside0.mk (Kd.C_below HCwk.out hbb); clear HCwk; have HCwk := HCwk'; clear HCwk'
  clear hbb
  clear HCr21 hcr21 HCr22 hcr22
  go_wp2_with fail
  refine (pianolalaw07_at.calls 20 _ 8 [0, 0, 1, 1, 1, 2, 2, 3] [⟨0, 0⟩, ⟨1, 1⟩, ⟨1, 2⟩, ⟨2, 3⟩] _ (C_lit _ _ [0, 0, 1, 1, 1, 2, 2, 3] rfl rfl (by decide)) (Nat.le_refl _) (by decide +kernel)).mono ?_
  rintro e w34 ⟨v, rfl, hR, hb⟩
  have hbb := below_then (below_alloc (Below.refl w33.heap.size w33) _) (by simp) hb; clear hb
  have HB' := Aside0.mk (below_then HB.out HB.out.size hbb); clear HB; have HB := HB'; clear HB'
  have HCwk' := Aside0.mk (Kd.C_below HCwk.out hbb); clear HCwk; have HCwk := HCwk'; clear HCwk'
  clear hbb
  obtain ⟨Ap1, cp1, rfl, hcp1, hCp1⟩ := Kd.R_reads hR
  clear hR
  have HCp1 := Aside0.mk hCp1; clear hCp1
  go_wp2_with fail
  refine (pianolalaw07_pairs.calls 20 Awk cwk rW Ap1 cp1 rW true _ HCwk.out hcwk HCp1.out hcp1 (by decide +kernel)).mono ?_
  rintro e w35 ⟨rfl, hd⟩; have hb := hd.below; clear hd
  have hbb := hb; clear hb
  have HB' := Aside0.mk (below_then HB.out HB.out.size hbb); clear HB; have HB := HB'; clear HB'
  clear hbb
  clear HCwk hcwk HCp1 hcp1
  go_wp2_with fail
  refine (pianolalaw07_A.calls rA _ rfl).mono ?_
  rintro e w36 ⟨v, rfl, hR, hb⟩
  have hbb := hb; clear hb
  have HB' := Aside0.mk (below_then HB.out HB.out.size hbb); clear HB; have HB := HB'; clear HB'
  clear hbb
  obtain ⟨Ar23, cr23, rfl, hcr23, hCr23⟩ := Kd.R_reads hR
  clear hR
  have HCr23 := Aside0.mk hCr23; clear hCr23
  go_wp2_with fail
  refine (pianolalaw07_C.calls rC _ rfl).mono ?_
  rintro e w37 ⟨v, rfl, hR, hb⟩
  have hbb := hb; clear hb
  have HB' := Aside0.mk (below_then HB.out HB.out.size hbb); clear HB; have HB := HB'; clear HB'
  have HCr23' := Aside0.mk (Kd.C_below HCr23.out hbb); clear HCr23; have HCr23 := HCr23'; clear HCr23'
  clear hbb
  obtain ⟨Ar24, cr24, rfl, hcr24, hCr24⟩ := Kd.R_reads hR
  clear hR
  have HCr24 := Aside0.mk hCr24; clear hCr24
  go_wp2_with fail
  refine (pianolalaw07_at.calls 20 _ 4 [1, 0, 1, 1] [⟨1, 0⟩, ⟨1, 1⟩] _ (C_lit _ _ [1, 0, 1, 1] rfl rfl (by decide)) (Nat.le_refl _) (by decide +kernel)).mono ?_
  rintro e w38 ⟨v, rfl, hR, hb⟩
  have hbb := below_then (below_alloc (Below.refl w37.heap.size w37) _) (by simp) hb; clear hb
  have HB' := Aside0.mk (below_then HB.out HB.out.size hbb); clear HB; have HB := HB'; clear HB'
  have HCr23' := Aside0.mk (Kd.C_below HCr23.out hbb); clear HCr23; have HCr23 := HCr23'; clear HCr23'
  have HCr24' := Aside0.mk (Kd.C_below HCr24.out hbb); clear HCr24; have HCr24 := HCr24'; clear HCr24'
  clear hbb
  obtain ⟨Ap2, cp2, rfl, hcp2, hCp2⟩ := Kd.R_reads hR
  clear hR
  have HCp2 := Aside0.mk hCp2; clear hCp2
  go_wp2_with fail
  refine (align_Verify.calls Ar23 cr23 rA Ar24 cr24 rC 2 Ap2 cp2 [⟨1, 0⟩, ⟨1, 1⟩] 7 _ HCr23.out hcr23 HCr24.out hcr24 HCp2.out hcp2 (by decide) (by decide +kernel)).mono ?_
  rintro e w39 ⟨rfl, hb⟩
  have hbb := hb; clear hb
  have HB' := Aside0.mk (below_then HB.out HB.out.size hbb); clear HB; have HB := HB'; clear HB'
  clear hbb
  clear HCr23 hcr23 HCr24 hcr24 HCp2 hcp2
  go_wp2_with fail
  refine (pianolalaw07_A.calls rA _ rfl).mono ?_
  rintro e w40 ⟨v, rfl, hR, hb⟩
  have hbb := hb; clear hb
  have HB' := Aside0.mk (below_then HB.out HB.out.size hbb); clear HB; have HB := HB'; clear HB'
  clear hbb
  obtain ⟨Ar25, cr25, rfl, hcr25, hCr25⟩ := Kd.R_reads hR
  clear hR
  have HCr25 := Aside0.mk hCr25; clear hCr25
  go_wp2_with fail
  refine (pianolalaw07_C.calls rC _ rfl).mono ?_
  rintro e w41 ⟨v, rfl, hR, hb⟩
  have hbb := hb; clear hb
  have HB' := Aside0.mk (below_then HB.out HB.out.size hbb); clear HB; have HB := HB'; clear HB'
  have HCr25' := Aside0.mk (Kd.C_below HCr25.out hbb); clear HCr25; have HCr25 := HCr25'; clear HCr25'
  clear hbb
  obtain ⟨Ar26, cr26, rfl, hcr26, hCr26⟩ := Kd.R_reads hR
  clear hR
  have HCr26 := Aside0.mk hCr26; clear hCr26
  go_wp2_with fail
  refine (pianolalaw07_at.calls 20 _ 4 [0, 1, 1, 0] [⟨0, 1⟩, ⟨1, 0⟩] _ (C_lit _ _ [0, 1, 1, 0] rfl rfl (by decide)) (Nat.le_refl _) (by decide +kernel)).mono ?_
  rintro e w42 ⟨v, rfl, hR, hb⟩
  have hbb := below_then (below_alloc (Below.refl w41.heap.size w41) _) (by simp) hb; clear hb
  have HB' := Aside0.mk (below_then HB.out HB.out.size hbb); clear HB; have HB := HB'; clear HB'
  have HCr25' := Aside0.mk (Kd.C_below HCr25.out hbb); clear HCr25; have HCr25 := HCr25'; clear HCr25'
  have HCr26' := Aside0.mk (Kd.C_below HCr26.out hbb); clear HCr26; have HCr26 := HCr26'; clear HCr26'
  clear hbb
  obtain ⟨Ap3, cp3, rfl, hcp3, hCp3⟩ := Kd.R_reads hR
  clear hR
  have HCp3 := Aside0.mk hCp3; clear hCp3
  go_wp2_with fail
  refine (align_Verify.calls Ar25 cr25 rA Ar26 cr26 rC 2 Ap3 cp3 [⟨0, 1⟩, ⟨1, 0⟩] 13 _ HCr25.out hcr25 HCr26.out hcr26 HCp3.out hcp3 (by decide) (by decide +kernel)).mono ?_
  rintro e w43 ⟨rfl, hb⟩
  have hbb := hb; clear hb
  have HB' := Aside0.mk (below_then HB.out HB.out.size hbb); clear HB; have HB := HB'; clear HB'
  clear hbb
  clear HCr25 hcr25 HCr26 hcr26 HCp3 hcp3
  go_wp2_with fail
  refine (pianolalaw07_A.calls rA _ rfl).mono ?_
  rintro e w44 ⟨v, rfl, hR, hb⟩
  have hbb := hb; clear hb
  have HB' := Aside0.mk (below_then HB.out HB.out.size hbb); clear HB; have HB := HB'; clear HB'
  clear hbb
  obtain ⟨Ar27, cr27, rfl, hcr27, hCr27⟩ := Kd.R_reads hR
  clear hR
  have HCr27 := Aside0.mk hCr27; clear hCr27
  go_wp2_with fail
  refine (pianolalaw07_C.calls rC _ rfl).mono ?_
  rintro e w45 ⟨v, rfl, hR, hb⟩
  have hbb := hb; clear hb
  have HB' := Aside0.mk (below_then HB.out HB.out.size hbb); clear HB; have HB := HB'; clear HB'
  have HCr27' := Aside0.mk (Kd.C_below HCr27.out hbb); clear HCr27; have HCr27 := HCr27'; clear HCr27'
  clear hbb
  obtain ⟨Ar28, cr28, rfl, hcr28, hCr28⟩ := Kd.R_reads hR
  clear hR
  have HCr28 := Aside0.mk hCr28; clear hCr28
  go_wp2_with fail
  refine (pianolalaw07_at.calls 20 _ 6 [0, 1, 1, 1, 1, 0] [⟨0, 1⟩, ⟨1, 1⟩, ⟨1, 0⟩] _ (C_lit _ _ [0, 1, 1, 1, 1, 0] rfl rfl (by decide)) (Nat.le_refl _) (by decide +kernel)).mono ?_
  rintro e w46 ⟨v, rfl, hR, hb⟩
  have hbb := below_then (below_alloc (Below.refl w45.heap.size w45) _) (by simp) hb; clear hb
  have HB' := Aside0.mk (below_then HB.out HB.out.size hbb); clear HB; have HB := HB'; clear HB'
  have HCr27' := Aside0.mk (Kd.C_below HCr27.out hbb); clear HCr27; have HCr27 := HCr27'; clear HCr27'
  have HCr28' := Aside0.mk (Kd.C_below HCr28.out hbb); clear HCr28; have HCr28 := HCr28'; clear HCr28'
  clear hbb
  obtain ⟨Ap4, cp4, rfl, hcp4, hCp4⟩ := Kd.R_reads hR
  clear hR
  have HCp4 := Aside0.mk hCp4; clear hCp4
  go_wp2_with fail
  refine (align_Verify.calls Ar27 cr27 rA Ar28 cr28 rC 2 Ap4 cp4 [⟨0, 1⟩, ⟨1, 1⟩, ⟨1, 0⟩] 0 _ HCr27.out hcr27 HCr28.out hcr28 HCp4.out hcp4 (by decide) (by decide +kernel)).mono ?_
  rintro e w47 ⟨rfl, hb⟩
  have hbb := hb; clear hb
  have HB' := Aside0.mk (below_then HB.out HB.out.size hbb); clear HB; have HB := HB'; clear HB'
  clear hbb
  clear HCr27 hcr27 HCr28 hcr28 HCp4 hcp4
  go_wp2
  go_ret
  exact ⟨rfl, HB.out⟩

end Go.Proofs.Ytkocigldchiifaa.H
