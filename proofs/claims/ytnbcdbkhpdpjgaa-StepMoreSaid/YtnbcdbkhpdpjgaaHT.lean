/- What Master.made makes, as plain Lean; own rows of own rows, an element of which is lent, appended to and put back. -/
import Derived.Test.YtnbcdbkhpdpjgaaQD0
namespace Go.Proofs.Ytnbcdbkhpdpjgaa.H
open Go.RowKit Go.Proofs.YtnbcdbkhpdpjgaaW.PrintWords Go.Proofs.YtnbcdbkhpdpjgaaW.PrintLast Go.Proofs.YtnbcdbkhpdpjgaaW.PrintMore
open Go.Proofs.Ytnbcdbkhpdpjgaa.QA
set_option linter.unusedVariables false
set_option linter.unusedSimpArgs false

/-- What has been made: positions and rows, copy by copy, and the offsets. -/
structure MdSt where
 cs : List (List Int)
 os : List Int
 rs : List (List Int)
def mdOf (o0 o1 o2 : Int) (c : Nat) : Int := if c = 0 then o0 else if c = 1 then o1 else o2
/-- A copy more, where it is the hole's turn. -/
def mdNew (s o0 o1 o2 : Int) (st : MdSt) (i : Nat) : MdSt := if i % 3 = st.cs.length then ⟨st.cs ++ [[]], st.os ++ [mdOf o0 o1 o2 (i % 3) % s], st.rs ++ [[]]⟩ else st
def mdPut (s off : Int) (st : MdSt) (c : Nat) (x : S92) : MdSt :=
 ⟨st.cs.set c (st.cs.getD c [] ++ [st.os.getD c 0 + (7 + x.f0 % 50) * s + x.f1 % (2 * off + 1) - off]), st.os, st.rs.set c (st.rs.getD c [] ++ [7 + x.f0 % 50])⟩
def mdStep (s off o0 o1 o2 : Int) (st : MdSt) (i : Nat) (x : S92) : MdSt := mdPut s off (mdNew s o0 o1 o2 st i) (i % 3) x
def mdRun (s off o0 o1 o2 : Int) : List S92 → Nat → MdSt → MdSt
 | [], _, st => st
 | x :: l, i, st => mdRun s off o0 o1 o2 l (i + 1) (mdStep s off o0 o1 o2 st i x)
def isByte (a : Int) : Prop := 0 ≤ a ∧ a ≤ 255
instance (a : Int) : Decidable (isByte a) := by unfold isByte; infer_instance
def mdOk (a0 a1 a2 a3 a4 : Int) (l : List S92) : Prop := (isByte a0 ∧ isByte a1 ∧ isByte a2 ∧ isByte a3 ∧ isByte a4) ∧ ∀ x ∈ l, isByte x.f0 ∧ isByte x.f1
instance (a0 a1 a2 a3 a4 : Int) (l : List S92) : Decidable (mdOk a0 a1 a2 a3 a4 l) := by unfold mdOk; infer_instance
def mdEnd (s off : Int) (st : MdSt) : Int × List (List Int) × Int × List Int × List (List Int) :=
 if st.cs = [] then (off, [[7 * s]], s, [0], [[7]]) else (off, st.cs, s, st.os, st.rs)
def pianolalaw01_Master_made.f (a0 a1 a2 a3 a4 : Int) (l : List S92) : Option (Int × List (List Int) × Int × List Int × List (List Int)) :=
 if mdOk a0 a1 a2 a3 a4 l then some (mdEnd (1 + a0 % 40) (a1 % 7) (mdRun (1 + a0 % 40) (a1 % 7) a2 a3 a4 (l.take 15) 0 ⟨[], [], []⟩)) else none

abbrev dN : Kd Int := Kd.int .i64
abbrev dL : Kd (List Int) := Kd.slice 3 dN

/-- Three rows of the call's own, apart from each other, and the two variables. -/
structure MI (w W : World) (cM : Array Value) (off : Int) (P1 P2 P3 : Nat → Prop) (vb vx v4 v5 : Value) (st : MdSt) : Prop where
 hs : Kd.S dL 34 W w.heap.size P1 vx st.cs
 ho : Kd.R dN 3 W w.heap.size P2 v4 st.os
 hr : Kd.S dL 34 W w.heap.size P3 v5 st.rs
 bm : W.heap[w.heap.size]? = some (.cells cM 59 (0, 0))
 bx : W.heap[w.heap.size + 1]? = some (.cells #[.int .i64 off, vb] 24 (0, 0))
 hb : Below w.heap.size w W
 lt : ∀ k, (P1 k ∨ P2 k ∨ P3 k) → k < W.heap.size
 dis : ∀ k, (P1 k → ¬ P2 k ∧ ¬ P3 k) ∧ (P2 k → ¬ P3 k)
section
variable {w W w1 W' : World} {cM : Array Value} {off : Int} {P1 P2 P3 : Nat → Prop} {vb vx v4 v5 v1 u : Value} {st : MdSt}
theorem MI.below (h : MI w W cM off P1 P2 P3 vb vx v4 v5 st) (hbb : Below W.heap.size W W') : MI w W' cM off P1 P2 P3 vb vx v4 v5 st :=
 ⟨Kd.S_below h.hs hbb, Kd.R_below h.ho hbb, Kd.S_below h.hr hbb, blk_below h.bm hbb, blk_below h.bx hbb, below_then h.hb h.hb.size hbb, fun k hk => Nat.lt_of_lt_of_le (h.lt k hk) hbb.size, h.dis⟩
theorem MI.setb (h : MI w W cM off P1 P2 P3 vb vx v4 v5 st) (u : Value) : MI w (W.setCell ⟨w.heap.size + 1, 1, none⟩ u) cM off P1 P2 P3 u vx v4 v5 st :=
 ⟨Kd.S_set h.hs h.bx (by decide) 1 u, Kd.R_set h.ho h.bx (by decide) 1 u, Kd.S_set h.hr h.bx (by decide) 1 u, blk_far h.bm (by simp) u, blk_put h.bx 1 u (by rfl), below_set h.hb (by omega), fun k hk => by have := h.lt k hk; simpa using this, h.dis⟩
theorem MI.set0 (h : MI w W cM off P1 P2 P3 vb vx v4 v5 st) : MI w (W.setCell ⟨w.heap.size + 1, 0, none⟩ (.int .i64 off)) cM off P1 P2 P3 vb vx v4 v5 st :=
 ⟨Kd.S_set h.hs h.bx (by decide) 0 _, Kd.R_set h.ho h.bx (by decide) 0 _, Kd.S_set h.hr h.bx (by decide) 0 _, blk_far h.bm (by simp) _, blk_put h.bx 0 _ (by rfl), below_set h.hb (by omega), fun k hk => by have := h.lt k hk; simpa using this, h.dis⟩
theorem MI.app1 {c' : List (List Int)} (h : MI w W cM off P1 P2 P3 vb vx v4 v5 st) (hS : Kd.S dL 34 w1 w.heap.size (fun k => P1 k ∨ W.heap.size ≤ k) v1 c') (hB : Below w.heap.size w w1) (hg : W.grownBy w1 vx.ownBlock) :
  MI w w1 cM off (fun k => (P1 k ∨ W.heap.size ≤ k) ∧ k < w1.heap.size) P2 P3 vb v1 v4 v5 ⟨c', st.os, st.rs⟩ where
 hs := Kd.S_mono (Kd.S_bound hS) (fun k hk => ⟨hk.1, hk.2.2.1⟩)
 ho := Kd.R_grown h.ho hg (fun k hk he => ((h.dis k).1 ((Kd.S_R h.hs).1 k he.symm)).1 hk)
 hr := Kd.S_grown h.hr hg (fun k hk he => ((h.dis k).1 ((Kd.S_R h.hs).1 k he.symm)).2 hk)
 bm := blk_grown h.bm hg (Kd.S_ne h.hs h.bm (by decide))
 bx := blk_grown h.bx hg (Kd.S_ne h.hs h.bx (by decide))
 hb := hB
 lt := fun k hk => hk.elim (fun h1 => h1.2) (fun h2 => Nat.lt_of_lt_of_le (h.lt k (.inr h2)) hg.size)
 dis := fun k => ⟨fun h1 => h1.1.elim (fun h2 => (h.dis k).1 h2) (fun h2 => ⟨fun h3 => by have := h.lt k (.inr (.inl h3)); omega, fun h3 => by have := h.lt k (.inr (.inr h3)); omega⟩), (h.dis k).2⟩
theorem MI.app3 {c' : List (List Int)} (h : MI w W cM off P1 P2 P3 vb vx v4 v5 st) (hS : Kd.S dL 34 w1 w.heap.size (fun k => P3 k ∨ W.heap.size ≤ k) v1 c') (hB : Below w.heap.size w w1) (hg : W.grownBy w1 v5.ownBlock) :
  MI w w1 cM off P1 P2 (fun k => (P3 k ∨ W.heap.size ≤ k) ∧ k < w1.heap.size) vb vx v4 v1 ⟨st.cs, st.os, c'⟩ where
 hr := Kd.S_mono (Kd.S_bound hS) (fun k hk => ⟨hk.1, hk.2.2.1⟩)
 ho := Kd.R_grown h.ho hg (fun k hk he => (h.dis k).2 hk ((Kd.S_R h.hr).1 k he.symm))
 hs := Kd.S_grown h.hs hg (fun k hk he => ((h.dis k).1 hk).2 ((Kd.S_R h.hr).1 k he.symm))
 bm := blk_grown h.bm hg (Kd.S_ne h.hr h.bm (by decide))
 bx := blk_grown h.bx hg (Kd.S_ne h.hr h.bx (by decide))
 hb := hB
 lt := fun k hk => hk.elim (fun h1 => Nat.lt_of_lt_of_le (h.lt k (.inl h1)) hg.size) (fun h1 => h1.elim (fun h2 => Nat.lt_of_lt_of_le (h.lt k (.inr (.inl h2))) hg.size) (fun h2 => h2.2))
 dis := fun k => ⟨fun h1 => ⟨((h.dis k).1 h1).1, fun h3 => h3.1.elim (fun h4 => ((h.dis k).1 h1).2 h4) (fun h4 => by have := h.lt k (.inl h1); omega)⟩, fun h2 h3 => h3.1.elim (fun h4 => (h.dis k).2 h2 h4) (fun h4 => by have := h.lt k (.inr (.inl h2)); omega)⟩
theorem MI.app2 {c' : List Int} (h : MI w W cM off P1 P2 P3 vb vx v4 v5 st) (hS : Kd.R dN 3 w1 w.heap.size (fun k => P2 k ∨ W.heap.size ≤ k) v1 c') (hB : Below w.heap.size w w1) (hg : W.grownBy w1 v4.ownBlock) :
  MI w w1 cM off P1 (fun k => (P2 k ∨ W.heap.size ≤ k) ∧ k < w1.heap.size) P3 vb vx v1 v5 ⟨st.cs, c', st.rs⟩ where
 ho := Kd.R_mono (Kd.R_bound hS) (fun k hk => ⟨hk.1, hk.2.2.1⟩)
 hs := Kd.S_grown h.hs hg (fun k hk he => ((h.dis k).1 hk).1 (h.ho.1 k he.symm))
 hr := Kd.S_grown h.hr hg (fun k hk he => (h.dis k).2 (h.ho.1 k he.symm) hk)
 bm := blk_grown h.bm hg (Kd.R_ne h.ho h.bm (by decide))
 bx := blk_grown h.bx hg (Kd.R_ne h.ho h.bx (by decide))
 hb := hB
 lt := fun k hk => hk.elim (fun h1 => Nat.lt_of_lt_of_le (h.lt k (.inl h1)) hg.size) (fun h1 => h1.elim (fun h2 => h2.2) (fun h2 => Nat.lt_of_lt_of_le (h.lt k (.inr (.inr h2))) hg.size))
 dis := fun k => ⟨fun h1 => ⟨fun h3 => h3.1.elim (fun h4 => ((h.dis k).1 h1).1 h4) (fun h4 => by have := h.lt k (.inl h1); omega), ((h.dis k).1 h1).2⟩, fun h2 h3 => h2.1.elim (fun h4 => (h.dis k).2 h4 h3) (fun h4 => by have := h.lt k (.inr (.inr h3)); omega)⟩
end

/-- Element c of an own row of own rows, lent. -/
structure LE (B : Nat) (W : World) (P : Nat → Prop) (g n cap : Nat) (xs : List (List Int)) (c : Nat) (o : Nat → Prop) (u va : Value) (la : List Int) : Prop where
 R : Kd.R dN 3 W B o va la
 H : Kd.H dL 34 W B P (.slice (some ⟨g, 0, none⟩) n cap) xs (c : Int) o [u]
 cell : W.cell? ⟨g, c, none⟩ = some u
 no : ¬ o g
 pg : P g
section
variable {B : Nat} {W w1 : World} {P o : Nat → Prop} {g n cap c : Nat} {xs : List (List Int)} {u va va' : Value} {la la' : List Int}
theorem H_bnd {α : Type} {d : Kd α} {e base : Nat} {w : World} {ok oki : Nat → Prop} {v : Value} {ys : List α} {i : Int} {cl : List Value} (h : Kd.H d e w base ok v ys i oki cl) : Kd.H d e w base (fun k => ok k ∧ k < w.heap.size) v ys i (fun k => oki k ∧ k < w.heap.size) cl := by
 obtain ⟨ho, f, h⟩ := h
 exact ⟨fun k hk => ⟨ho k hk.1, hk.2⟩, f, Kd.R_mono (Kd.R_bound h) (fun k hk => ⟨⟨hk.1.1, hk.2.2.1⟩, fun h2 => hk.1.2 h2.1⟩)⟩
theorem lend (h : Kd.S dL 34 W B P (.slice (some ⟨g, 0, none⟩) n cap) xs) (hc : c < n) : ∃ (o : Nat → Prop) (u : Value), LE B W P g n cap xs c o u u (xs.getD c []) := by
 obtain ⟨o, cl, hl, hM, hcc, hok, hH⟩ := Kd.S_lend h [] (c : Int) (by omega) (by omega)
 obtain ⟨u, rfl, hR⟩ := hM
 refine ⟨o, u, ?_, hH, ?_, fun hg => (hok g hg).2 rfl, (Kd.S_R h).1 g (by simp [Value.ownBlock])⟩
 · simpa using hR
 · have := hcc 0 u rfl
   simpa [show dL.sz = 1 from rfl] using this
theorem LE.below (h : LE B W P g n cap xs c o u va la) (hb : Below W.heap.size W w1) : LE B w1 P g n cap xs c o u va la :=
 ⟨Kd.R_below h.R hb, Kd.H_below h.H hb, pw_cell_below hb h.cell, h.no, h.pg⟩
theorem LE.other {row : Option Nat} (h : LE B W P g n cap xs c o u va la) (hg : W.grownBy w1 row) (hr : ∀ k, row = some k → ¬ P k) : LE B w1 P g n cap xs c o u va la :=
 ⟨Kd.R_grown h.R hg (fun k hk he => hr k he.symm (h.H.1 k hk)), Kd.H_other h.H hg (fun k hk he => hr k he.symm hk), cell_grown hg h.cell (fun he => hr g he.symm h.pg), h.no, h.pg⟩
theorem LE.app (h : LE B W P g n cap xs c o u va la) (hR : Kd.R dN 3 w1 B (fun k => o k ∨ W.heap.size ≤ k) va' la') (hg : W.grownBy w1 va.ownBlock) :
  LE B w1 (fun k => (P k ∨ W.heap.size ≤ k) ∧ k < w1.heap.size) g n cap xs c (fun k => (o k ∨ W.heap.size ≤ k) ∧ k < w1.heap.size) u va' la' := by
 have hgl : g < W.heap.size := World.block_lt_of_cell? _ _ h.cell
 have e : (fun k => o k ∨ (P k ∨ W.heap.size ≤ k) ∧ W.heap.size ≤ k) = (fun k => o k ∨ W.heap.size ≤ k) := funext fun k => propext ⟨fun h => h.imp id And.right, fun h => h.imp id (fun h2 => ⟨.inr h2, h2⟩)⟩
 refine ⟨Kd.R_mono (Kd.R_bound hR) (fun k hk => ⟨hk.1, hk.2.2.1⟩), ?_, cell_grown hg h.cell (fun he => h.no (h.R.1 g he.symm)), fun h2 => h2.1.elim h.no (fun h3 => by omega), ⟨.inl h.pg, Nat.lt_of_lt_of_le hgl hg.size⟩⟩
 have h1 := Kd.H_widen (Kd.H_mono (ok' := fun k => P k ∨ W.heap.size ≤ k) h.H (fun k hk => .inl hk))
 rw [e] at h1
 exact H_bnd (Kd.H_grown h1 hg (fun k hk => .inl (h.R.1 k hk)))
theorem LE.back (h : LE B W P g n cap xs c o u va la) (hc : c < n) (hv : va.oneCell' = true) : Kd.S dL 34 (W.setCell ⟨g, c, none⟩ va) B P (.slice (some ⟨g, 0, none⟩) n cap) (xs.set c la) ∧ W.grownBy (W.setCell ⟨g, c, none⟩ va) (some g) := by
 obtain ⟨h1, h2⟩ := Kd.H_seg h.H (by omega) (by omega) (seg := [va]) (j := 0) (by show 0 + 1 ≤ 1; omega) (by simp [hv])
 have e : W.setCells g ((c : Int).toNat * dL.sz + 0) [va] = W.setCell ⟨g, c, none⟩ va := by simp [show dL.sz = 1 from rfl, World.setCells]
 rw [e] at h1 h2
 refine ⟨?_, h2⟩
 have h3 : dL.M (W.setCell ⟨g, c, none⟩ va) B o la [va] := ⟨va, rfl, Kd.R_grown h.R h2 (fun k hk he => h.no (by injection he with he; rwa [← he]))⟩
 have h4 := Kd.H_back h1 h3 (fun k hk => hk)
 simpa using h4
end
theorem LE.frozen {B : Nat} {W : World} {P o : Nat → Prop} {g n cap c : Nat} {xs : List (List Int)} {u va : Value} {la : List Int} (h : LE B W P g n cap xs c o u va la) : W.frozen? ⟨g, c, none⟩ = false := by
 obtain ⟨_, f, hR⟩ := h.H
 obtain ⟨cells, hc⟩ := Kd.R_typed hR g (by simp [Value.ownBlock])
 exact blk_frozen hc c
/-- The two variables and the three rows, an element of copies and one of rows being lent. -/
structure ML (w W : World) (cM : Array Value) (off : Int) (P1 P2 P3 : Nat → Prop) (gx gr n cx cr : Nat) (v4 : Value) (st : MdSt) (c : Nat) (o1 o3 : Nat → Prop) (ua ub va vb : Value) (la lb : List Int) : Prop where
 a : LE w.heap.size W P1 gx n cx st.cs c o1 ua va la
 b : LE w.heap.size W P3 gr n cr st.rs c o3 ub vb lb
 ho : Kd.R dN 3 W w.heap.size P2 v4 st.os
 bm : W.heap[w.heap.size]? = some (.cells cM 59 (0, 0))
 bx : W.heap[w.heap.size + 1]? = some (.cells #[.int .i64 off, .slice (some ⟨gx, 0, none⟩) n cx] 24 (0, 0))
 hb : Below w.heap.size w W
 lt : ∀ k, (P1 k ∨ P2 k ∨ P3 k) → k < W.heap.size
 dis : ∀ k, (P1 k → ¬ P2 k ∧ ¬ P3 k) ∧ (P2 k → ¬ P3 k)
/-- A row that is none of these. -/
def LitR (B : Nat) (W : World) (P1 P2 P3 : Nat → Prop) (v : Value) (xs : List Int) : Prop := Kd.R dN 3 W B (fun k => k < W.heap.size ∧ ¬ P1 k ∧ ¬ P2 k ∧ ¬ P3 k) v xs
section
variable {w W w1 : World} {cM : Array Value} {off : Int} {P1 P2 P3 o1 o3 : Nat → Prop} {gx gr n cx cr c : Nat} {v4 ua ub va vb v1 v : Value} {st : MdSt} {la lb l1 xs : List Int}
theorem MI.lend (h : MI w W cM off P1 P2 P3 (.slice (some ⟨gx, 0, none⟩) n cx) (.slice (some ⟨gx, 0, none⟩) n cx) v4 (.slice (some ⟨gr, 0, none⟩) n cr) st) (hc : c < n) :
  ∃ o1 ua o3 ub, ML w W cM off P1 P2 P3 gx gr n cx cr v4 st c o1 o3 ua ub ua ub (st.cs.getD c []) (st.rs.getD c []) := by
 obtain ⟨o1, ua, ha⟩ := H.lend h.hs hc
 obtain ⟨o3, ub, hb⟩ := H.lend h.hr hc
 exact ⟨o1, ua, o3, ub, ha, hb, h.ho, h.bm, h.bx, h.hb, h.lt, h.dis⟩
theorem ML.below (h : ML w W cM off P1 P2 P3 gx gr n cx cr v4 st c o1 o3 ua ub va vb la lb) (hbb : Below W.heap.size W w1) : ML w w1 cM off P1 P2 P3 gx gr n cx cr v4 st c o1 o3 ua ub va vb la lb :=
 ⟨h.a.below hbb, h.b.below hbb, Kd.R_below h.ho hbb, blk_below h.bm hbb, blk_below h.bx hbb, below_then h.hb h.hb.size hbb, fun k hk => Nat.lt_of_lt_of_le (h.lt k hk) hbb.size, h.dis⟩
theorem ML.blkA (h : ML w W cM off P1 P2 P3 gx gr n cx cr v4 st c o1 o3 ua ub va vb la lb) {k : Nat} (hk : va.ownBlock = some k) : P1 k := h.a.H.1 k (h.a.R.1 k hk)
theorem ML.blkB (h : ML w W cM off P1 P2 P3 gx gr n cx cr v4 st c o1 o3 ua ub va vb la lb) {k : Nat} (hk : vb.ownBlock = some k) : P3 k := h.b.H.1 k (h.b.R.1 k hk)
theorem ML.appA (h : ML w W cM off P1 P2 P3 gx gr n cx cr v4 st c o1 o3 ua ub va vb la lb) (hR : Kd.R dN 3 w1 w.heap.size (fun k => o1 k ∨ W.heap.size ≤ k) v1 l1) (hB : Below w.heap.size w w1) (hg : W.grownBy w1 va.ownBlock) :
  ML w w1 cM off (fun k => (P1 k ∨ W.heap.size ≤ k) ∧ k < w1.heap.size) P2 P3 gx gr n cx cr v4 st c (fun k => (o1 k ∨ W.heap.size ≤ k) ∧ k < w1.heap.size) o3 ua ub v1 vb l1 lb where
 a := h.a.app hR hg
 b := h.b.other hg (fun k hk => ((h.dis k).1 (h.blkA hk)).2)
 ho := Kd.R_grown h.ho hg (fun k hk he => ((h.dis k).1 (h.blkA he.symm)).1 hk)
 bm := blk_grown h.bm hg (Kd.R_ne h.a.R h.bm (by decide))
 bx := blk_grown h.bx hg (Kd.R_ne h.a.R h.bx (by decide))
 hb := hB
 lt := fun k hk => hk.elim (fun h1 => h1.2) (fun h2 => Nat.lt_of_lt_of_le (h.lt k (.inr h2)) hg.size)
 dis := fun k => ⟨fun h1 => h1.1.elim (fun h2 => (h.dis k).1 h2) (fun h2 => ⟨fun h3 => by have := h.lt k (.inr (.inl h3)); omega, fun h3 => by have := h.lt k (.inr (.inr h3)); omega⟩), (h.dis k).2⟩
theorem ML.litA (h : ML w W cM off P1 P2 P3 gx gr n cx cr v4 st c o1 o3 ua ub va vb la lb) (hl : LitR w.heap.size W P1 P2 P3 v xs) (hg : W.grownBy w1 va.ownBlock) : LitR w.heap.size w1 (fun k => (P1 k ∨ W.heap.size ≤ k) ∧ k < w1.heap.size) P2 P3 v xs :=
 Kd.R_mono (Kd.R_grown hl hg (fun k hk he => hk.2.1 (h.blkA he.symm))) (fun k hk => ⟨Nat.lt_of_lt_of_le hk.1 hg.size, fun h1 => h1.1.elim hk.2.1 (fun h2 => by have := hk.1; omega), hk.2.2⟩)
theorem LitR.below (hl : LitR w.heap.size W P1 P2 P3 v xs) (hbb : Below W.heap.size W w1) : LitR w.heap.size w1 P1 P2 P3 v xs := Kd.R_mono (Kd.R_below hl hbb) (fun k hk => ⟨Nat.lt_of_lt_of_le hk.1 hbb.size, hk.2⟩)
theorem ML.lit (h : ML w W cM off P1 P2 P3 gx gr n cx cr v4 st c o1 o3 ua ub va vb la lb) (hR : Kd.R dN 3 w1 W.heap.size (fun _ => True) v xs) : LitR w.heap.size w1 P1 P2 P3 v xs :=
 Kd.R_lower (Kd.R_mono (Kd.R_bound hR) (fun k hk => ⟨hk.2.2.1, fun h1 => by have := h.lt k (.inl h1); have := hk.2.1; omega, fun h1 => by have := h.lt k (.inr (.inl h1)); have := hk.2.1; omega, fun h1 => by have := h.lt k (.inr (.inr h1)); have := hk.2.1; omega⟩)) h.hb.size
theorem ML.appB (h : ML w W cM off P1 P2 P3 gx gr n cx cr v4 st c o1 o3 ua ub va vb la lb) (hR : Kd.R dN 3 w1 w.heap.size (fun k => o3 k ∨ W.heap.size ≤ k) v1 l1) (hB : Below w.heap.size w w1) (hg : W.grownBy w1 vb.ownBlock) :
  ML w w1 cM off P1 P2 (fun k => (P3 k ∨ W.heap.size ≤ k) ∧ k < w1.heap.size) gx gr n cx cr v4 st c o1 (fun k => (o3 k ∨ W.heap.size ≤ k) ∧ k < w1.heap.size) ua ub va v1 la l1 where
 a := h.a.other hg (fun k hk h1 => ((h.dis k).1 h1).2 (h.blkB hk))
 b := h.b.app hR hg
 ho := Kd.R_grown h.ho hg (fun k hk he => (h.dis k).2 hk (h.blkB he.symm))
 bm := blk_grown h.bm hg (Kd.R_ne h.b.R h.bm (by decide))
 bx := blk_grown h.bx hg (Kd.R_ne h.b.R h.bx (by decide))
 hb := hB
 lt := fun k hk => hk.elim (fun h1 => Nat.lt_of_lt_of_le (h.lt k (.inl h1)) hg.size) (fun h1 => h1.elim (fun h2 => Nat.lt_of_lt_of_le (h.lt k (.inr (.inl h2))) hg.size) (fun h2 => h2.2))
 dis := fun k => ⟨fun h1 => ⟨((h.dis k).1 h1).1, fun h3 => h3.1.elim (fun h4 => ((h.dis k).1 h1).2 h4) (fun h4 => by have := h.lt k (.inl h1); omega)⟩, fun h2 h3 => h3.1.elim (fun h4 => (h.dis k).2 h2 h4) (fun h4 => by have := h.lt k (.inr (.inl h2)); omega)⟩
/-- Both put back. -/
theorem ML.fin (h : ML w W cM off P1 P2 P3 gx gr n cx cr v4 st c o1 o3 ua ub va vb la lb) (hc : c < n) :
  (W.setCell ⟨gx, c, none⟩ va).cell? ⟨gr, c, none⟩ = some ub ∧ (W.setCell ⟨gx, c, none⟩ va).frozen? ⟨gr, c, none⟩ = false ∧
  MI w ((W.setCell ⟨gx, c, none⟩ va).setCell ⟨gr, c, none⟩ vb) cM off P1 P2 P3 (.slice (some ⟨gx, 0, none⟩) n cx) (.slice (some ⟨gx, 0, none⟩) n cx) v4 (.slice (some ⟨gr, 0, none⟩) n cr) ⟨st.cs.set c la, st.os, st.rs.set c lb⟩ := by
 obtain ⟨h1, g1⟩ := h.a.back hc (Kd.R_val h.a.R).2
 have hx3 : ∀ k, some gx = some k → ¬ P3 k := fun k hk h3 => ((h.dis gx).1 h.a.pg).2 (by injection hk with hk; rwa [hk])
 have hb1 := h.b.other g1 (fun k hk => hx3 k hk)
 obtain ⟨h2, g2⟩ := hb1.back hc (Kd.R_val h.b.R).2
 have hwx : w.heap.size ≤ gx := by obtain ⟨_, f, hR⟩ := h.a.H; exact Kd.R_base hR gx (by simp [Value.ownBlock])
 have hwr : w.heap.size ≤ gr := by obtain ⟨_, f, hR⟩ := h.b.H; exact Kd.R_base hR gr (by simp [Value.ownBlock])
 have hgx : ∀ k, P2 k → some k ≠ some gx := fun k hk he => ((h.dis k).1 (by injection he with he; rw [he]; exact h.a.pg)).1 hk
 have hgr : ∀ k, P2 k → some k ≠ some gr := fun k hk he => (h.dis k).2 hk (by injection he with he; rw [he]; exact h.b.pg)
 have hgr1 : ∀ k, P1 k → some k ≠ some gr := fun k hk he => ((h.dis k).1 hk).2 (by injection he with he; rw [he]; exact h.b.pg)
 have tx : ∃ cells, W.heap[gx]? = some (.cells cells 34 (0, 0)) := by obtain ⟨_, f, hR⟩ := h.a.H; exact Kd.R_typed hR gx (by simp [Value.ownBlock])
 have tr : ∃ cells, W.heap[gr]? = some (.cells cells 34 (0, 0)) := by obtain ⟨_, f, hR⟩ := h.b.H; exact Kd.R_typed hR gr (by simp [Value.ownBlock])
 obtain ⟨q1, tx⟩ := tx
 obtain ⟨q2, tr⟩ := tr
 have m1 := blk_far h.bm (p := ⟨gx, c, none⟩) (blk_ne h.bm tx (by decide)) va
 have m2 := blk_far h.bx (p := ⟨gx, c, none⟩) (blk_ne h.bx tx (by decide)) va
 refine ⟨hb1.cell, hb1.frozen, Kd.S_grown h1 g2 hgr1, Kd.R_grown (Kd.R_grown h.ho g1 hgx) g2 hgr, h2, blk_far m1 (p := ⟨gr, c, none⟩) (blk_ne h.bm tr (by decide)) vb, blk_far m2 (p := ⟨gr, c, none⟩) (blk_ne h.bx tr (by decide)) vb, below_set (below_set h.hb hwx) hwr, fun k hk => by have := h.lt k hk; simpa using this, h.dis⟩
end
section
variable {P : Program} {ops : Array Oper} {o : Oper} {a : Act} {Q : Exit → Act → World → Prop} {Kc : Act → World → Prop}
theorem store_step {W w1 : World} (hw : Region.wanted o (yielded ops a.tmps) = true) (hN : o.dst = none) (hrun : (execOp a.eval o).run P W = .ok .skip w1) (h : Kc a w1) : if Region.wanted o (yielded ops a.tmps) = true then Oper.wp P o a W Kc Q else Kc (a.put none undef) W := by
 rw [if_pos hw]
 unfold Oper.wp
 rw [hrun]
 show Kc (a.put o.dst undef) w1
 rw [hN]
 exact h
end
theorem S_one {α : Type} {d : Kd α} {e base : Nat} {w : World} {ok : Nat → Prop} {v : Value} {x : α} (h : d.R e w base ok v [x]) : Kd.S d e w base ok v [x] := by
 obtain ⟨h0, inner, ho, hr⟩ := h
 refine ⟨fun _ => 0, h0, inner, ho, hr.1, fun j p hp => ?_⟩
 match j, hp with
 | 0, hp =>
  obtain rfl := Option.some.inj hp
  exact d.M_mono (fun k hk => ⟨hk, rfl⟩) (hr.2 0 x rfl)
end Go.Proofs.Ytnbcdbkhpdpjgaa.H
