/- Two events of a table, copied in any order. -/
import Derived.Test.YtkocigldchiifaaHR
namespace Go.Proofs.Ytkocigldchiifaa.H
open Go.RowKit Go.Proofs.YtkocigldchiifaaW.PrintWords Go.Proofs.YtkocigldchiifaaW.PrintLast Go.Proofs.YtkocigldchiifaaW.PrintMore
open Go.Proofs.Ytkocigldchiifaa.QA
set_option linter.unusedVariables false
set_option linter.unusedSimpArgs false

/-! Region 1 of function 47: 2 copies, made in any order. -/
/-- One of the copies: where it lies, and what it holds so far. -/
def Far1Ch (W : World) (base : Nat) (al st : Bool) (x : Value) (g : Nat) (V : Array Value) : Prop :=
 al = true → x = .pointer (some ⟨g, 0, none⟩) ∧ base ≤ g ∧ W.heap[g]? = some (.cells (if st then V else #[.int .i64 0, .int .i64 0, .int .i64 0]) 59 (0, 0))
theorem Far1Ch.below {W W' : World} {base g : Nat} {al st : Bool} {x : Value} {V : Array Value} (h : Far1Ch W base al st x g V) (hb : Below W.heap.size W W') : Far1Ch W' base al st x g V := fun ha => by
 obtain ⟨h1, h2, h3⟩ := h ha
 exact ⟨h1, h2, blk_below h3 hb⟩
theorem Far1Ch.alloc {W : World} {base : Nat} {V : Array Value} (h : base ≤ W.heap.size) : Far1Ch (W.alloc (.cells #[.int .i64 0, .int .i64 0, .int .i64 0] 59)) base true false (.pointer (some ⟨W.heap.size, 0, none⟩)) W.heap.size V := fun _ => ⟨rfl, h, blk_new W _⟩
theorem Far1Ch.lt {W : World} {base : Nat} {x : Value} {al st : Bool} {g : Nat} {V : Array Value} (h : Far1Ch W base al st x g V) (ha : al = true) : g < W.heap.size := blk_lt (h ha).2.2
theorem Far1Ch.far {W W' : World} {base : Nat} {x : Value} {al st : Bool} {g q : Nat} {V : Array Value} (h : Far1Ch W base al st x g V) (hk : ∀ k, k ≠ q → W'.heap[k]? = W.heap[k]?) (hne : al = true → g ≠ q) : Far1Ch W' base al st x g V := fun ha => ⟨(h ha).1, (h ha).2.1, (hk _ (hne ha)).trans (h ha).2.2⟩
theorem far1_stored (W : World) {g : Nat} {c0 c1 c2 u0 u1 u2 : Value} {t : TypeId} (h : W.heap[g]? = some (.cells #[c0, c1, c2] t (0, 0))) : (((W.setCell ⟨g, 0, none⟩ u0).setCell ⟨g, 1, none⟩ u1).setCell ⟨g, 2, none⟩ u2).heap[g]? = some (.cells #[u0, u1, u2] t (0, 0)) ∧ ∀ k, k ≠ g → (((W.setCell ⟨g, 0, none⟩ u0).setCell ⟨g, 1, none⟩ u1).setCell ⟨g, 2, none⟩ u2).heap[k]? = W.heap[k]? := by
 refine ⟨?_, fun k hk => ?_⟩
 · have h1 := blk_set h 0 u0
   have h2 := blk_set h1 1 u1
   have h3 := blk_set h2 2 u2
   simpa using h3
 · rw [Below.heap_setCell _ _ _ _ hk, Below.heap_setCell _ _ _ _ hk, Below.heap_setCell _ _ _ _ hk]
theorem far1_store0 {X : Prop} {ops : Array Oper} {o : Oper} {a : Act} {Kc : Act → World → Prop} {Q : Exit → Act → World → Prop} {W : World} {g : Nat} {e0 e1 e2 d0 d1 d2 : Int} {p x : Operand} (hw : Region.wanted o (yielded ops a.tmps) = true) (hN : o.dst = none) (hop : o.op = .store 59 p x)
  (hp : a.eval p = .pointer (some ⟨g, 0, none⟩)) (hx : a.eval x = .agg #[.int .i64 d0, .int .i64 d1, .int .i64 d2]) (hb : W.heap[g]? = some (.cells #[.int .i64 0, .int .i64 0, .int .i64 0] 59 (0, 0)))
  (h : Kc a (((W.setCell ⟨g, 0, none⟩ (.int .i64 d0)).setCell ⟨g, 1, none⟩ (.int .i64 d1)).setCell ⟨g, 2, none⟩ (.int .i64 d2))) : if Region.wanted o (yielded ops a.tmps) = true then Oper.wp Try.prog o a W Kc Q else X := by
 have key := store_step (P := Try.prog) (Q := Q) (Kc := Kc) (W := W) (a := a) (w1 := (((W.setCell ⟨g, 0, none⟩ (.int .i64 d0)).setCell ⟨g, 1, none⟩ (.int .i64 d1)).setCell ⟨g, 2, none⟩ (.int .i64 d2))) hw hN ?_ h
 · rw [if_pos hw] at key ⊢; exact key
 have c0 : W.cell? ⟨g, 0, none⟩ = some (.int .i64 0) := (blk_cell hb 0).trans rfl
 have f0 : W.frozen? ⟨g, 0, none⟩ = false := blk_frozen hb 0
 have hb0 := blk_set hb 0 (.int .i64 d0)
 have c1 : (W.setCell ⟨g, 0, none⟩ (.int .i64 d0)).cell? ⟨g, 1, none⟩ = some (.int .i64 0) := (blk_cell hb0 1).trans rfl
 have f1 : (W.setCell ⟨g, 0, none⟩ (.int .i64 d0)).frozen? ⟨g, 1, none⟩ = false := blk_frozen hb0 1
 have hb1 := blk_set hb0 1 (.int .i64 d1)
 have c2 : ((W.setCell ⟨g, 0, none⟩ (.int .i64 d0)).setCell ⟨g, 1, none⟩ (.int .i64 d1)).cell? ⟨g, 2, none⟩ = some (.int .i64 0) := (blk_cell hb1 2).trans rfl
 have f2 : ((W.setCell ⟨g, 0, none⟩ (.int .i64 d0)).setCell ⟨g, 1, none⟩ (.int .i64 d1)).frozen? ⟨g, 2, none⟩ = false := blk_frozen hb1 2
 clear h hb hb0 hb1
 have hu := Try.underlying59
 unfold execOp
 simp [hop, hp, hx]
 go_simp
theorem far1_store1 {X : Prop} {ops : Array Oper} {o : Oper} {a : Act} {Kc : Act → World → Prop} {Q : Exit → Act → World → Prop} {W : World} {g : Nat} {e0 e1 e2 d0 d1 d2 : Int} {p x : Operand} (hw : Region.wanted o (yielded ops a.tmps) = true) (hN : o.dst = none) (hop : o.op = .store 59 p x)
  (hp : a.eval p = .pointer (some ⟨g, 0, none⟩)) (hx : a.eval x = .agg #[.int .i64 e0, .int .i64 e1, .int .i64 e2]) (hb : W.heap[g]? = some (.cells #[.int .i64 0, .int .i64 0, .int .i64 0] 59 (0, 0)))
  (h : Kc a (((W.setCell ⟨g, 0, none⟩ (.int .i64 e0)).setCell ⟨g, 1, none⟩ (.int .i64 e1)).setCell ⟨g, 2, none⟩ (.int .i64 e2))) : if Region.wanted o (yielded ops a.tmps) = true then Oper.wp Try.prog o a W Kc Q else X := by
 have key := store_step (P := Try.prog) (Q := Q) (Kc := Kc) (W := W) (a := a) (w1 := (((W.setCell ⟨g, 0, none⟩ (.int .i64 e0)).setCell ⟨g, 1, none⟩ (.int .i64 e1)).setCell ⟨g, 2, none⟩ (.int .i64 e2))) hw hN ?_ h
 · rw [if_pos hw] at key ⊢; exact key
 have c0 : W.cell? ⟨g, 0, none⟩ = some (.int .i64 0) := (blk_cell hb 0).trans rfl
 have f0 : W.frozen? ⟨g, 0, none⟩ = false := blk_frozen hb 0
 have hb0 := blk_set hb 0 (.int .i64 e0)
 have c1 : (W.setCell ⟨g, 0, none⟩ (.int .i64 e0)).cell? ⟨g, 1, none⟩ = some (.int .i64 0) := (blk_cell hb0 1).trans rfl
 have f1 : (W.setCell ⟨g, 0, none⟩ (.int .i64 e0)).frozen? ⟨g, 1, none⟩ = false := blk_frozen hb0 1
 have hb1 := blk_set hb0 1 (.int .i64 e1)
 have c2 : ((W.setCell ⟨g, 0, none⟩ (.int .i64 e0)).setCell ⟨g, 1, none⟩ (.int .i64 e1)).cell? ⟨g, 2, none⟩ = some (.int .i64 0) := (blk_cell hb1 2).trans rfl
 have f2 : ((W.setCell ⟨g, 0, none⟩ (.int .i64 e0)).setCell ⟨g, 1, none⟩ (.int .i64 e1)).frozen? ⟨g, 2, none⟩ = false := blk_frozen hb1 2
 clear h hb hb0 hb1
 have hu := Try.underlying59
 unfold execOp
 simp [hop, hp, hx]
 go_simp
theorem far1_alloc {X : Prop} {ops : Array Oper} {o : Oper} {a : Act} {Kc : Act → World → Prop} {Q : Exit → Act → World → Prop} {W : World} (n : Nat) (hw : Region.wanted o (yielded ops a.tmps) = true) (hN : o.dst = some n) (hop : o.op = .alloc 59)
  (h : Kc (a.put (some n) (.pointer (some ⟨W.heap.size, 0, none⟩))) (W.alloc (.cells #[.int .i64 0, .int .i64 0, .int .i64 0] 59))) : if Region.wanted o (yielded ops a.tmps) = true then Oper.wp Try.prog o a W Kc Q else X := by
 have hu := Try.underlying59
 have := event_step (P := Try.prog) (Q := Q) (Kc := Kc) (W := W) hw (o := o) (a := a) (w1 := W.alloc (.cells #[.int .i64 0, .int .i64 0, .int .i64 0] 59)) (v := .pointer (some ⟨W.heap.size, 0, none⟩)) (by
  unfold execOp
  simp [hop]
  go_simp
  try rfl) (by rw [hN]; exact h)
 rw [if_pos hw] at this ⊢
 exact this
theorem far1_cases {i : Nat} {l : Array Bool} {b16 b17 b18 b19 : Bool} (hl : l = #[true, true, true, true, true, true, true, true, true, true, true, true, true, true, true, true, b16, b17, b18, b19]) (h : l.getD i true = false) : (i = 16 ∧ b16 = false) ∨ (i = 17 ∧ b17 = false) ∨ (i = 18 ∧ b18 = false) ∨ (i = 19 ∧ b19 = false) := by
 subst hl
 match i, h with
 | 0, h => cases h
 | 1, h => cases h
 | 2, h => cases h
 | 3, h => cases h
 | 4, h => cases h
 | 5, h => cases h
 | 6, h => cases h
 | 7, h => cases h
 | 8, h => cases h
 | 9, h => cases h
 | 10, h => cases h
 | 11, h => cases h
 | 12, h => cases h
 | 13, h => cases h
 | 14, h => cases h
 | 15, h => cases h
 | 16, h => exact .inl ⟨rfl, h⟩
 | 17, h => exact .inr (.inl ⟨rfl, h⟩)
 | 18, h => exact .inr (.inr (.inl ⟨rfl, h⟩))
 | 19, h => exact .inr (.inr (.inr ⟨rfl, h⟩))
 | n + 20, h => simp at h
def Far1 (A : Act) (W0 : World) (e0 e1 e2 d0 d1 d2 : Int) (l : Array Bool) (a : Act) (W : World) : Prop :=
 ∃ (b16 b17 b18 b19 : Bool) (x0 x1 : Value) (g0 g1 : Nat), l = #[true, true, true, true, true, true, true, true, true, true, true, true, true, true, true, true, b16, b17, b18, b19] ∧ a = putAll A [(5, x0), (6, x1)] ∧ Below W0.heap.size W0 W ∧ (Far1Ch W W0.heap.size b16 b18 x0 g0 #[.int .i64 e0, .int .i64 e1, .int .i64 e2] ∧ Far1Ch W W0.heap.size b17 b19 x1 g1 #[.int .i64 d0, .int .i64 d1, .int .i64 d2]) ∧ ((b16 = true → b17 = true → g0 ≠ g1)) ∧ ((b16 = false → b18 = false) ∧ (b17 = false → b19 = false))
set_option maxRecDepth 100000 in
theorem far1 {Q : Exit → Act → World → Prop} {S : World → Prop} {ds : List Nat} (A : Act) (W0 : World) (e0 e1 e2 d0 d1 d2 : Int) (hA : A.tmps.size = 39) (h14 : A.eval (.tmp 14) = .agg #[.int .i64 e0, .int .i64 e1, .int .i64 e2]) (h22 : A.eval (.tmp 22) = .agg #[.int .i64 d0, .int .i64 d1, .int .i64 d2])
  (hS : ∀ W', Below W0.heap.size W0 W' → S W')
  (hend : ∀ (g0 g1 : Nat) (W' : World), Below W0.heap.size W0 W' → (W0.heap.size ≤ g0 ∧ W0.heap.size ≤ g1) → (g0 ≠ g1) → W'.heap[g0]? = some (.cells #[.int .i64 e0, .int .i64 e1, .int .i64 e2] 59 (0, 0)) → W'.heap[g1]? = some (.cells #[.int .i64 d0, .int .i64 d1, .int .i64 d2] 59 (0, 0)) → Q .normal (putAll A [(5, .pointer (some ⟨g0, 0, none⟩)), (6, .pointer (some ⟨g1, 0, none⟩))]) W') :
  wpAnyLast Try.prog .any (opsOf Try.f47 1) Q S ds 4 #[true, true, true, true, true, true, true, true, true, true, true, true, true, true, true, true, false, false, false, false] A W0 := by
 refine region_inv (Far1 A W0 e0 e1 e2 d0 d1 d2) ?_ ?_ ?_ 4 _ _ _ ?_ (by decide)
 · rintro l a W i ⟨b16, b17, b18, b19, x0, x1, g0, g1, hl, rfl, hB, ⟨C0, C1⟩, D01, ⟨U0, U1⟩⟩ hi
   obtain ⟨hun, o, ho, hdep⟩ := mem_ready.1 hi
   clear hi
   have hB0 := hB.size
   rcases far1_cases hl hun with ⟨rfl, rfl⟩ | ⟨rfl, rfl⟩ | ⟨rfl, rfl⟩ | ⟨rfl, rfl⟩
   · refine wpOp_step (o := o) ho fun K hK => ?_
     have hst : b18 = false := U0 rfl
     subst hst
     obtain ⟨o1, o2, o3⟩ := op_at ho (x := (.alloc 59, some 5, true)) (by kernel_rfl)
     refine far1_alloc 5 (wanted_of o3 _) o2 o1 ?_
     refine hK _ _ ?_
     subst hl
     exact ⟨true, b17, false, b19, _, _, _, _, rfl, put2_1 _ _ _ _ (by decide), hB.alloc hB0 _, ⟨Far1Ch.alloc hB0, C1.below (below_alloc (Below.refl _ _) _)⟩, (fun _ h => by have := C1.lt h; omega), ⟨(fun _ => rfl), U1⟩⟩
   · refine wpOp_step (o := o) ho fun K hK => ?_
     have hst : b19 = false := U1 rfl
     subst hst
     obtain ⟨o1, o2, o3⟩ := op_at ho (x := (.alloc 59, some 6, true)) (by kernel_rfl)
     refine far1_alloc 6 (wanted_of o3 _) o2 o1 ?_
     refine hK _ _ ?_
     subst hl
     exact ⟨b16, true, b18, false, _, _, _, _, rfl, put2_2 _ _ _ _, hB.alloc hB0 _, ⟨C0.below (below_alloc (Below.refl _ _) _), Far1Ch.alloc hB0⟩, (fun h _ => by have := C0.lt h; omega), ⟨U0, (fun _ => rfl)⟩⟩
   · refine wpOp_step (o := o) ho fun K hK => ?_
     obtain ⟨o1, o2, o3⟩ := op_at ho (x := (.store 59 (.tmp 5) (.tmp 14), none, true)) (by kernel_rfl)
     have hal : b16 = true := by
      have := dep_of (d := 16) ho (by kernel_rfl) hdep
      rw [hl] at this
      exact this
     subst hal
     have s1 := (C0 rfl).2.2
     have s2 := far1_stored W (u0 := .int .i64 e0) (u1 := .int .i64 e1) (u2 := .int .i64 e2) s1
     refine far1_store1 (e0 := e0) (e1 := e1) (e2 := e2) (d0 := d0) (d1 := d1) (d2 := d2) (g := g0) (wanted_of o3 _) o2 o1 ((eval2_1 _ _ _ (by decide) (by rw [hA]; decide)).trans (C0 rfl).1) ((eval2 _ _ _ 14 (by decide) (by decide)).trans h14) s1 ?_
     refine hK _ _ ?_
     subst hl
     exact ⟨true, b17, true, b19, x0, x1, g0, g1, rfl, rfl, below_set (below_set (below_set hB (C0 rfl).2.1) (C0 rfl).2.1) (C0 rfl).2.1, ⟨(fun _ => ⟨(C0 rfl).1, (C0 rfl).2.1, s2.1⟩), (C1.far s2.2 (fun h => (Ne.symm (D01 rfl h))))⟩, D01, ⟨(fun h => by cases h), U1⟩⟩
   · refine wpOp_step (o := o) ho fun K hK => ?_
     obtain ⟨o1, o2, o3⟩ := op_at ho (x := (.store 59 (.tmp 6) (.tmp 22), none, true)) (by kernel_rfl)
     have hal : b17 = true := by
      have := dep_of (d := 17) ho (by kernel_rfl) hdep
      rw [hl] at this
      exact this
     subst hal
     have s1 := (C1 rfl).2.2
     have s2 := far1_stored W (u0 := .int .i64 d0) (u1 := .int .i64 d1) (u2 := .int .i64 d2) s1
     refine far1_store0 (e0 := e0) (e1 := e1) (e2 := e2) (d0 := d0) (d1 := d1) (d2 := d2) (g := g1) (wanted_of o3 _) o2 o1 ((eval2_2 _ _ _ (by rw [hA]; decide)).trans (C1 rfl).1) ((eval2 _ _ _ 22 (by decide) (by decide)).trans h22) s1 ?_
     refine hK _ _ ?_
     subst hl
     exact ⟨b16, true, b18, true, x0, x1, g0, g1, rfl, rfl, below_set (below_set (below_set hB (C1 rfl).2.1) (C1 rfl).2.1) (C1 rfl).2.1, ⟨(C0.far s2.2 (fun h => D01 h rfl)), (fun _ => ⟨(C1 rfl).1, (C1 rfl).2.1, s2.1⟩)⟩, D01, ⟨U0, (fun h => by cases h)⟩⟩
 · rintro l a W ⟨b16, b17, b18, b19, x0, x1, g0, g1, hl, rfl, hB, ⟨C0, C1⟩, D01, ⟨U0, U1⟩⟩
   exact hS W hB
 · rintro l a W ⟨b16, b17, b18, b19, x0, x1, g0, g1, hl, rfl, hB, ⟨C0, C1⟩, D01, ⟨U0, U1⟩⟩ hr
   subst hl
   have key : ∀ c16 c17 c18 c19 : Bool, Region.ready .any (opsOf Try.f47 1) #[true, true, true, true, true, true, true, true, true, true, true, true, true, true, true, true, c16, c17, c18, c19] = [] → c16 = true ∧ c17 = true ∧ c18 = true ∧ c19 = true := by decide +kernel
   obtain ⟨rfl, rfl, rfl, rfl⟩ := key _ _ _ _ hr
   obtain ⟨rfl, p0, q0⟩ := C0 rfl
   obtain ⟨rfl, p1, q1⟩ := C1 rfl
   exact hend g0 g1 W hB ⟨p0, p1⟩ (D01 rfl rfl) q0 q1
 · refine ⟨false, false, false, false, A.eval (.tmp 5), A.eval (.tmp 6), 0, 0, rfl, ?_, Below.refl _ _, ⟨(fun h => by cases h), (fun h => by cases h)⟩, (fun h => by cases h), ⟨(fun _ => rfl), (fun _ => rfl)⟩⟩
   simp only [putAll, put_self]
end Go.Proofs.Ytkocigldchiifaa.H
