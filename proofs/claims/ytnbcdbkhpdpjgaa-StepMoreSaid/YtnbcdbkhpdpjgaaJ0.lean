/- Three copies of a sheet, made in any order: region 6 of StepMore. -/
import Derived.Test.YtnbcdbkhpdpjgaaI9
import Derived.Test.YtnbcdbkhpdpjgaaHT
namespace Go.Proofs.Ytnbcdbkhpdpjgaa.H
open Go.RowKit Go.Proofs.YtnbcdbkhpdpjgaaW.PrintWords Go.Proofs.YtnbcdbkhpdpjgaaW.PrintLast Go.Proofs.YtnbcdbkhpdpjgaaW.PrintMore
open Go.Proofs.Ytnbcdbkhpdpjgaa.QA
set_option linter.unusedVariables false
set_option linter.unusedSimpArgs false

theorem putAll3 (A : Act) (n1 n2 n3 : Nat) (x y z : Value) : putAll A [(n1, x), (n2, y), (n3, z)] = ((A.put (some n1) x).put (some n2) y).put (some n3) z := rfl
theorem put_again (a : Act) (n : Nat) (x y : Value) : (a.put (some n) x).put (some n) y = a.put (some n) y := by
 simp [Act.put]
theorem put_swap (a : Act) (n m : Nat) (x y : Value) (h : n ≠ m) : (a.put (some n) x).put (some m) y = (a.put (some m) y).put (some n) x :=
 Act.put_comm a x y (fun d hd => by injection hd with hd; subst hd; simpa using (Ne.symm h))
theorem eval_same (a : Act) (n : Nat) (x : Value) (h : n < a.tmps.size) : (a.put (some n) x).eval (.tmp n) = x := by
 simp [Act.put, Act.eval, h]
theorem eval_other (a : Act) (n m : Nat) (x : Value) (h : n ≠ m) : (a.put (some n) x).eval (.tmp m) = a.eval (.tmp m) := by
 simp [Act.put, Act.eval, Array.getD_eq_getD_getElem?, Array.getElem?_setIfInBounds_ne h]
theorem put_size (a : Act) (n : Nat) (x : Value) : (a.put (some n) x).tmps.size = a.tmps.size := by simp [Act.put]
theorem put_self (a : Act) (n : Nat) : a.put (some n) (a.eval (.tmp n)) = a := by
 obtain ⟨t, d⟩ := a
 simp only [Act.put, Act.eval]
 congr 1
 refine Array.ext_getElem? fun i => ?_
 by_cases e : n = i
 · subst e
   rcases Nat.lt_or_ge n t.size with h | h
   · simp [h]
   · simp [h]
 · rw [Array.getElem?_setIfInBounds_ne e]
theorem put3_1 (A : Act) {n1 n2 n3 : Nat} (x y z p : Value) (h2 : n1 ≠ n2) (h3 : n1 ≠ n3) : (putAll A [(n1, x), (n2, y), (n3, z)]).put (some n1) p = putAll A [(n1, p), (n2, y), (n3, z)] := by
 rw [putAll3, putAll3, put_swap _ n3 n1 z p (Ne.symm h3), put_swap _ n2 n1 y p (Ne.symm h2), put_again]
theorem put3_2 (A : Act) {n1 n2 n3 : Nat} (x y z p : Value) (h3 : n2 ≠ n3) : (putAll A [(n1, x), (n2, y), (n3, z)]).put (some n2) p = putAll A [(n1, x), (n2, p), (n3, z)] := by
 rw [putAll3, putAll3, put_swap _ n3 n2 z p (Ne.symm h3), put_again]
theorem put3_3 (A : Act) {n1 n2 n3 : Nat} (x y z p : Value) : (putAll A [(n1, x), (n2, y), (n3, z)]).put (some n3) p = putAll A [(n1, x), (n2, y), (n3, p)] := by
 rw [putAll3, putAll3, put_again]
theorem eval3 (A : Act) {n1 n2 n3 : Nat} (x y z : Value) (m : Nat) (h1 : n1 ≠ m) (h2 : n2 ≠ m) (h3 : n3 ≠ m) : (putAll A [(n1, x), (n2, y), (n3, z)]).eval (.tmp m) = A.eval (.tmp m) := by
 rw [putAll3, eval_other _ _ _ _ h3, eval_other _ _ _ _ h2, eval_other _ _ _ _ h1]
theorem eval3_1 (A : Act) {n1 n2 n3 : Nat} (x y z : Value) (h2 : n2 ≠ n1) (h3 : n3 ≠ n1) (hs : n1 < A.tmps.size) : (putAll A [(n1, x), (n2, y), (n3, z)]).eval (.tmp n1) = x := by
 rw [putAll3, eval_other _ _ _ _ h3, eval_other _ _ _ _ h2, eval_same _ _ _ hs]
theorem eval3_2 (A : Act) {n1 n2 n3 : Nat} (x y z : Value) (h3 : n3 ≠ n2) (hs : n2 < A.tmps.size) : (putAll A [(n1, x), (n2, y), (n3, z)]).eval (.tmp n2) = y := by
 rw [putAll3, eval_other _ _ _ _ h3, eval_same _ _ _ (by rw [put_size]; exact hs)]
theorem eval3_3 (A : Act) {n1 n2 n3 : Nat} (x y z : Value) (hs : n3 < A.tmps.size) : (putAll A [(n1, x), (n2, y), (n3, z)]).eval (.tmp n3) = z := by
 rw [putAll3, eval_same _ _ _ (by rw [put_size, put_size]; exact hs)]

/-- One of three copies: where it lies, and what it holds so far. -/
def Ch (W : World) (base : Nat) (al st : Bool) (x : Value) (g : Nat) (off : Int) (sx : Value) : Prop :=
 al = true → x = .pointer (some ⟨g, 0, none⟩) ∧ base ≤ g ∧ W.heap[g]? = some (.cells (if st then #[.int .i64 off, sx] else #[.int .i64 0, .slice none 0 0]) 24 (0, 0))
theorem Ch.below {W W' : World} {base g : Nat} {al st : Bool} {x sx : Value} {off : Int} (h : Ch W base al st x g off sx) (hb : Below W.heap.size W W') : Ch W' base al st x g off sx := fun ha => by
 obtain ⟨h1, h2, h3⟩ := h ha
 exact ⟨h1, h2, blk_below h3 hb⟩
theorem store2 (W : World) {g : Nat} {c0 c1 u0 u1 : Value} {t : TypeId} (h : W.heap[g]? = some (.cells #[c0, c1] t (0, 0))) : ((W.setCell ⟨g, 0, none⟩ u0).setCell ⟨g, 1, none⟩ u1).heap[g]? = some (.cells #[u0, u1] t (0, 0)) ∧ ∀ k, k ≠ g → ((W.setCell ⟨g, 0, none⟩ u0).setCell ⟨g, 1, none⟩ u1).heap[k]? = W.heap[k]? := by
 refine ⟨?_, fun k hk => ?_⟩
 · have h1 := blk_set h 0 u0
   have h2 := blk_set h1 1 u1
   simpa using h2
 · rw [Below.heap_setCell _ _ _ _ hk, Below.heap_setCell _ _ _ _ hk]
/-- Region 6 of StepMore. -/
def More6 (A : Act) (W0 : World) (off : Int) (Ax : Option Addr) (nx cx : Nat) (l : Array Bool) (a : Act) (W : World) : Prop :=
 ∃ (b3 b4 b5 b6 b7 b8 : Bool) (x0 x1 x2 : Value) (g0 g1 g2 : Nat), l = #[true, true, true, b3, b4, b5, b6, b7, b8] ∧ a = putAll A [(14, x0), (15, x1), (16, x2)] ∧ Below W0.heap.size W0 W ∧ (Ch W W0.heap.size b3 b6 x0 g0 off (.slice Ax nx cx) ∧ Ch W W0.heap.size b4 b7 x1 g1 off (.slice Ax nx cx) ∧ Ch W W0.heap.size b5 b8 x2 g2 off (.slice Ax nx cx)) ∧ ((b3 = true → b4 = true → g0 ≠ g1) ∧ (b3 = true → b5 = true → g0 ≠ g2) ∧ (b4 = true → b5 = true → g1 ≠ g2)) ∧ ((b3 = false → b6 = false) ∧ (b4 = false → b7 = false) ∧ (b5 = false → b8 = false))
theorem Ch.alloc {W : World} {base : Nat} {off : Int} {sx : Value} (h : base ≤ W.heap.size) : Ch (W.alloc (.cells #[.int .i64 0, .slice none 0 0] 24)) base true false (.pointer (some ⟨W.heap.size, 0, none⟩)) W.heap.size off sx := fun _ => ⟨rfl, h, blk_new W _⟩
theorem Ch.lt {W : World} {base : Nat} {off : Int} {sx x : Value} {al st : Bool} {g : Nat} (h : Ch W base al st x g off sx) (ha : al = true) : g < W.heap.size := blk_lt (h ha).2.2
theorem Ch.far {W W' : World} {base : Nat} {off : Int} {sx x : Value} {al st : Bool} {g q : Nat} (h : Ch W base al st x g off sx) (hk : ∀ k, k ≠ q → W'.heap[k]? = W.heap[k]?) (hne : al = true → g ≠ q) : Ch W' base al st x g off sx := fun ha => ⟨(h ha).1, (h ha).2.1, (hk _ (hne ha)).trans (h ha).2.2⟩
theorem store_two {X : Prop} {ops : Array Oper} {o : Oper} {a : Act} {Kc : Act → World → Prop} {Q : Exit → Act → World → Prop} {W : World} {g : Nat} {off : Int} {Ax : Option Addr} {nx cx : Nat} {p x : Operand} (hw : Region.wanted o (yielded ops a.tmps) = true) (hN : o.dst = none) (hop : o.op = .store 24 p x)
  (hp : a.eval p = .pointer (some ⟨g, 0, none⟩)) (hx : a.eval x = .agg #[.int .i64 off, .slice Ax nx cx]) (hb : W.heap[g]? = some (.cells #[.int .i64 0, .slice none 0 0] 24 (0, 0)))
  (h : Kc a ((W.setCell ⟨g, 0, none⟩ (.int .i64 off)).setCell ⟨g, 1, none⟩ (.slice Ax nx cx))) : if Region.wanted o (yielded ops a.tmps) = true then Oper.wp Try.prog o a W Kc Q else X := by
 have key := store_step (P := Try.prog) (Q := Q) (Kc := Kc) (W := W) (a := a) (w1 := (W.setCell ⟨g, 0, none⟩ (.int .i64 off)).setCell ⟨g, 1, none⟩ (.slice Ax nx cx)) hw hN ?_ h
 · rw [if_pos hw] at key ⊢; exact key
 have c0 : W.cell? ⟨g, 0, none⟩ = some (.int .i64 0) := (blk_cell hb 0).trans rfl
 have hb2 := blk_set hb 0 (.int .i64 off)
 have c1 : (W.setCell ⟨g, 0, none⟩ (.int .i64 off)).cell? ⟨g, 1, none⟩ = some (.slice none 0 0) := (blk_cell hb2 1).trans rfl
 have f0 := blk_frozen hb 0
 have f1 := blk_frozen hb2 1
 clear hb hb2 h
 have hu24 := Try.underlying24
 unfold execOp
 simp [hop, hp, hx]
 go_simp
theorem alloc_two {X : Prop} {ops : Array Oper} {o : Oper} {a : Act} {Kc : Act → World → Prop} {Q : Exit → Act → World → Prop} {W : World} (n : Nat) (hw : Region.wanted o (yielded ops a.tmps) = true) (hN : o.dst = some n) (hop : o.op = .alloc 24)
  (h : Kc (a.put (some n) (.pointer (some ⟨W.heap.size, 0, none⟩))) (W.alloc (.cells #[.int .i64 0, .slice none 0 0] 24))) : if Region.wanted o (yielded ops a.tmps) = true then Oper.wp Try.prog o a W Kc Q else X := by
 have hu24 := Try.underlying24
 have := event_step (P := Try.prog) (Q := Q) (Kc := Kc) (W := W) hw (o := o) (a := a) (w1 := W.alloc (.cells #[.int .i64 0, .slice none 0 0] 24)) (v := .pointer (some ⟨W.heap.size, 0, none⟩)) (by
  unfold execOp
  simp [hop]
  go_simp
  try rfl) (by rw [hN]; exact h)
 rw [if_pos hw] at this ⊢
 exact this
theorem wanted_of {o : Oper} {ops : Array Oper} (h : o.guard.isNone = true) (ts : Array Value) : Region.wanted o (yielded ops ts) = true := by
 have : o.guard = none := Option.isNone_iff_eq_none.1 h
 simp [Region.wanted, this]
theorem op_at {ops : Array Oper} {i : Nat} {o : Oper} {x : Op × Option Tmp × Bool} (ho : ops[i]? = some o) (h : (ops[i]?.map fun o => (o.op, o.dst, o.guard.isNone)) = some x) : o.op = x.1 ∧ o.dst = x.2.1 ∧ o.guard.isNone = x.2.2 := by
 rw [ho] at h
 obtain rfl := Option.some.inj h
 exact ⟨rfl, rfl, rfl⟩
theorem dep_of {md : Region.Mode} {ops : Array Oper} {l : Array Bool} {i d : Nat} {o : Oper} (ho : ops[i]? = some o) (hc : (ops[i]?.any fun o => o.after.any fun e => Region.binds md e && e.on == d) = true) (hdep : ∀ e ∈ o.after, Region.binds md e = true → l.getD e.on false = true) : l.getD d false = true := by
 rw [ho] at hc
 have hc2 : (o.after.any fun e => Region.binds md e && e.on == d) = true := hc
 rw [← Array.any_toList, List.any_eq_true] at hc2
 obtain ⟨e, he, h⟩ := hc2
 simp only [Bool.and_eq_true, beq_iff_eq] at h
 rw [← h.2]
 exact hdep e (by simpa using he) h.1
theorem six_cases {i : Nat} {l : Array Bool} {b3 b4 b5 b6 b7 b8 : Bool} (hl : l = #[true, true, true, b3, b4, b5, b6, b7, b8]) (h : l.getD i true = false) : (i = 3 ∧ b3 = false) ∨ (i = 4 ∧ b4 = false) ∨ (i = 5 ∧ b5 = false) ∨ (i = 6 ∧ b6 = false) ∨ (i = 7 ∧ b7 = false) ∨ (i = 8 ∧ b8 = false) := by
 subst hl
 match i, h with
 | 0, h => cases h
 | 1, h => cases h
 | 2, h => cases h
 | 3, h => exact .inl ⟨rfl, h⟩
 | 4, h => exact .inr (.inl ⟨rfl, h⟩)
 | 5, h => exact .inr (.inr (.inl ⟨rfl, h⟩))
 | 6, h => exact .inr (.inr (.inr (.inl ⟨rfl, h⟩)))
 | 7, h => exact .inr (.inr (.inr (.inr (.inl ⟨rfl, h⟩))))
 | 8, h => exact .inr (.inr (.inr (.inr (.inr ⟨rfl, h⟩))))
 | n + 9, h => simp at h
set_option maxRecDepth 100000 in
theorem more6 {Q : Exit → Act → World → Prop} {S : World → Prop} {ds : List Nat} (A : Act) (W0 : World) (off : Int) (Ax : Option Addr) (nx cx : Nat) (hA : A.tmps.size = 110)
  (h39 : A.eval (.tmp 39) = .agg #[.int .i64 off, .slice Ax nx cx]) (h40 : A.eval (.tmp 40) = .agg #[.int .i64 off, .slice Ax nx cx]) (h41 : A.eval (.tmp 41) = .agg #[.int .i64 off, .slice Ax nx cx])
  (hS : ∀ W', Below W0.heap.size W0 W' → S W')
  (hend : ∀ (g0 g1 g2 : Nat) (W' : World), Below W0.heap.size W0 W' → (W0.heap.size ≤ g0 ∧ W0.heap.size ≤ g1 ∧ W0.heap.size ≤ g2) → (g0 ≠ g1 ∧ g0 ≠ g2 ∧ g1 ≠ g2) → W'.heap[g0]? = some (.cells #[.int .i64 off, .slice Ax nx cx] 24 (0, 0)) → W'.heap[g1]? = some (.cells #[.int .i64 off, .slice Ax nx cx] 24 (0, 0)) → W'.heap[g2]? = some (.cells #[.int .i64 off, .slice Ax nx cx] 24 (0, 0)) →
    Q .normal (putAll A [(14, .pointer (some ⟨g0, 0, none⟩)), (15, .pointer (some ⟨g1, 0, none⟩)), (16, .pointer (some ⟨g2, 0, none⟩))]) W') :
  wpAnyLast Try.prog .any (opsOf Try.f11 6) Q S ds 6 #[true, true, true, false, false, false, false, false, false] A W0 := by
 refine region_inv (More6 A W0 off Ax nx cx) ?_ ?_ ?_ 6 _ _ _ ?_ (by decide)
 · rintro l a W i ⟨b3, b4, b5, b6, b7, b8, x0, x1, x2, g0, g1, g2, hl, rfl, hB, ⟨C0, C1, C2⟩, ⟨D01, D02, D12⟩, ⟨U0, U1, U2⟩⟩ hi
   obtain ⟨hun, o, ho, hdep⟩ := mem_ready.1 hi
   clear hi
   have hB0 := hB.size
   rcases six_cases hl hun with ⟨rfl, rfl⟩ | ⟨rfl, rfl⟩ | ⟨rfl, rfl⟩ | ⟨rfl, rfl⟩ | ⟨rfl, rfl⟩ | ⟨rfl, rfl⟩
   · refine wpOp_step (o := o) ho fun K hK => ?_
     have hst : b6 = false := U0 rfl
     subst hst
     obtain ⟨o1, o2, o3⟩ := op_at ho (x := (.alloc 24, some 14, true)) (by kernel_rfl)
     refine alloc_two 14 (wanted_of o3 _) o2 o1 ?_
     refine hK _ _ ?_
     subst hl
     refine ⟨true, b4, b5, false, b7, b8, _, x1, x2, _, g1, g2, rfl, put3_1 _ _ _ _ _ (by decide) (by decide), hB.alloc hB0 _, ⟨Ch.alloc hB0, C1.below (below_alloc (Below.refl _ _) _), C2.below (below_alloc (Below.refl _ _) _)⟩, ⟨(fun _ h => by have := C1.lt h; omega), (fun _ h => by have := C2.lt h; omega), (D12)⟩, ⟨(fun _ => rfl), (U1), (U2)⟩⟩
   · refine wpOp_step (o := o) ho fun K hK => ?_
     have hst : b7 = false := U1 rfl
     subst hst
     obtain ⟨o1, o2, o3⟩ := op_at ho (x := (.alloc 24, some 15, true)) (by kernel_rfl)
     refine alloc_two 15 (wanted_of o3 _) o2 o1 ?_
     refine hK _ _ ?_
     subst hl
     refine ⟨b3, true, b5, b6, false, b8, x0, _, x2, g0, _, g2, rfl, put3_2 _ _ _ _ _ (by decide), hB.alloc hB0 _, ⟨C0.below (below_alloc (Below.refl _ _) _), Ch.alloc hB0, C2.below (below_alloc (Below.refl _ _) _)⟩, ⟨(fun h _ => by have := C0.lt h; omega), (D02), (fun _ h => by have := C2.lt h; omega)⟩, ⟨(U0), (fun _ => rfl), (U2)⟩⟩
   · refine wpOp_step (o := o) ho fun K hK => ?_
     have hst : b8 = false := U2 rfl
     subst hst
     obtain ⟨o1, o2, o3⟩ := op_at ho (x := (.alloc 24, some 16, true)) (by kernel_rfl)
     refine alloc_two 16 (wanted_of o3 _) o2 o1 ?_
     refine hK _ _ ?_
     subst hl
     refine ⟨b3, b4, true, b6, b7, false, x0, x1, _, g0, g1, _, rfl, put3_3 _ _ _ _ _ , hB.alloc hB0 _, ⟨C0.below (below_alloc (Below.refl _ _) _), C1.below (below_alloc (Below.refl _ _) _), Ch.alloc hB0⟩, ⟨(D01), (fun h _ => by have := C0.lt h; omega), (fun h _ => by have := C1.lt h; omega)⟩, ⟨(U0), (U1), (fun _ => rfl)⟩⟩
   · refine wpOp_step (o := o) ho fun K hK => ?_
     obtain ⟨o1, o2, o3⟩ := op_at ho (x := (.store 24 (.tmp 14) (.tmp 39), none, true)) (by kernel_rfl)
     have hal : b3 = true := by
      have := dep_of (d := 3) ho (by kernel_rfl) hdep
      rw [hl] at this
      exact this
     subst hal
     have s1 := (C0 rfl).2.2
     have s2 := store2 W (u0 := .int .i64 off) (u1 := .slice Ax nx cx) s1
     refine store_two (g := g0) (off := off) (Ax := Ax) (nx := nx) (cx := cx) (wanted_of o3 _) o2 o1 ((eval3_1 _ _ _ _ (by decide) (by decide) (by rw [hA]; decide)).trans (C0 rfl).1) ((eval3 _ _ _ _ 39 (by decide) (by decide) (by decide)).trans h39) s1 ?_
     refine hK _ _ ?_
     subst hl
     exact ⟨true, b4, b5, true, b7, b8, x0, x1, x2, g0, g1, g2, rfl, rfl, below_set (below_set hB (C0 rfl).2.1) (C0 rfl).2.1, ⟨(fun _ => ⟨(C0 rfl).1, (C0 rfl).2.1, s2.1⟩), (C1.far s2.2 (fun h => (Ne.symm (D01 rfl h)))), (C2.far s2.2 (fun h => (Ne.symm (D02 rfl h))))⟩, ⟨D01, D02, D12⟩, ⟨(fun h => by cases h), (U1), (U2)⟩⟩
   · refine wpOp_step (o := o) ho fun K hK => ?_
     obtain ⟨o1, o2, o3⟩ := op_at ho (x := (.store 24 (.tmp 15) (.tmp 40), none, true)) (by kernel_rfl)
     have hal : b4 = true := by
      have := dep_of (d := 4) ho (by kernel_rfl) hdep
      rw [hl] at this
      exact this
     subst hal
     have s1 := (C1 rfl).2.2
     have s2 := store2 W (u0 := .int .i64 off) (u1 := .slice Ax nx cx) s1
     refine store_two (g := g1) (off := off) (Ax := Ax) (nx := nx) (cx := cx) (wanted_of o3 _) o2 o1 ((eval3_2 _ _ _ _ (by decide) (by rw [hA]; decide)).trans (C1 rfl).1) ((eval3 _ _ _ _ 40 (by decide) (by decide) (by decide)).trans h40) s1 ?_
     refine hK _ _ ?_
     subst hl
     exact ⟨b3, true, b5, b6, true, b8, x0, x1, x2, g0, g1, g2, rfl, rfl, below_set (below_set hB (C1 rfl).2.1) (C1 rfl).2.1, ⟨(C0.far s2.2 (fun h => D01 h rfl)), (fun _ => ⟨(C1 rfl).1, (C1 rfl).2.1, s2.1⟩), (C2.far s2.2 (fun h => (Ne.symm (D12 rfl h))))⟩, ⟨D01, D02, D12⟩, ⟨(U0), (fun h => by cases h), (U2)⟩⟩
   · refine wpOp_step (o := o) ho fun K hK => ?_
     obtain ⟨o1, o2, o3⟩ := op_at ho (x := (.store 24 (.tmp 16) (.tmp 41), none, true)) (by kernel_rfl)
     have hal : b5 = true := by
      have := dep_of (d := 5) ho (by kernel_rfl) hdep
      rw [hl] at this
      exact this
     subst hal
     have s1 := (C2 rfl).2.2
     have s2 := store2 W (u0 := .int .i64 off) (u1 := .slice Ax nx cx) s1
     refine store_two (g := g2) (off := off) (Ax := Ax) (nx := nx) (cx := cx) (wanted_of o3 _) o2 o1 ((eval3_3 _ _ _ _  (by rw [hA]; decide)).trans (C2 rfl).1) ((eval3 _ _ _ _ 41 (by decide) (by decide) (by decide)).trans h41) s1 ?_
     refine hK _ _ ?_
     subst hl
     exact ⟨b3, b4, true, b6, b7, true, x0, x1, x2, g0, g1, g2, rfl, rfl, below_set (below_set hB (C2 rfl).2.1) (C2 rfl).2.1, ⟨(C0.far s2.2 (fun h => D02 h rfl)), (C1.far s2.2 (fun h => D12 h rfl)), (fun _ => ⟨(C2 rfl).1, (C2 rfl).2.1, s2.1⟩)⟩, ⟨D01, D02, D12⟩, ⟨(U0), (U1), (fun h => by cases h)⟩⟩
 · rintro l a W ⟨b3, b4, b5, b6, b7, b8, x0, x1, x2, g0, g1, g2, hl, rfl, hB, _⟩
   exact hS W hB
 · rintro l a W ⟨b3, b4, b5, b6, b7, b8, x0, x1, x2, g0, g1, g2, rfl, rfl, hB, ⟨C0, C1, C2⟩, ⟨D01, D02, D12⟩, ⟨U0, U1, U2⟩⟩ hr
   have key : ∀ c3 c4 c5 c6 c7 c8 : Bool, Region.ready .any (opsOf Try.f11 6) #[true, true, true, c3, c4, c5, c6, c7, c8] = [] → c3 = true ∧ c4 = true ∧ c5 = true ∧ c6 = true ∧ c7 = true ∧ c8 = true := by decide +kernel
   obtain ⟨rfl, rfl, rfl, rfl, rfl, rfl⟩ := key _ _ _ _ _ _ hr
   obtain ⟨rfl, p0, q0⟩ := C0 rfl
   obtain ⟨rfl, p1, q1⟩ := C1 rfl
   obtain ⟨rfl, p2, q2⟩ := C2 rfl
   exact hend g0 g1 g2 W hB ⟨p0, p1, p2⟩ ⟨D01 rfl rfl, D02 rfl rfl, D12 rfl rfl⟩ q0 q1 q2
 · refine ⟨false, false, false, false, false, false, A.eval (.tmp 14), A.eval (.tmp 15), A.eval (.tmp 16), 0, 0, 0, rfl, ?_, Below.refl _ _, ⟨(fun h => by cases h), (fun h => by cases h), (fun h => by cases h)⟩, ⟨(fun h => by cases h), (fun h => by cases h), (fun h => by cases h)⟩, ⟨(fun _ => rfl), (fun _ => rfl), (fun _ => rfl)⟩⟩
   rw [putAll3, put_self]
   rw [show A.eval (.tmp 15) = A.eval (.tmp 15) from rfl, put_self, put_self]
end Go.Proofs.Ytnbcdbkhpdpjgaa.H
