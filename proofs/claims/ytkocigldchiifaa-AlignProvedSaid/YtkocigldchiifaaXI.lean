/- Texts PA, HM, HN of this chapter, one behind the other. -/
import Derived.Carry
import Derived.LoopIn
import Derived.LoopNIn
import Derived.OwnWalkIn
import Derived.TacticsInMore
import Derived.Test.YtkocigldchiifaaQA4
import Derived.Test.YtkocigldchiifaaXA
import Derived.Test.YtkocigldchiifaaXB

/- The reference's events; the rests of pairs, step by step. -/
namespace Go.Proofs.Ytkocigldchiifaa.H
open Go.RowKit Go.Proofs.YtkocigldchiifaaW.PrintWords Go.Proofs.YtkocigldchiifaaW.PrintLast Go.Proofs.YtkocigldchiifaaW.PrintMore
open Go.Shelf Go.Proofs.Ytkocigldchiifaa.QA
set_option linter.unusedVariables false
set_option linter.unusedSimpArgs false

/-- An event, as the reference has it. -/
def ev (x : S59) : S79 := ⟨x.f0, x.f1, x.f2⟩
end Go.Proofs.Ytkocigldchiifaa.H

/- Tables of rows of one's own. -/
namespace Go.Proofs.Ytkocigldchiifaa.H
open Go.RowKit Go.Proofs.YtkocigldchiifaaW.PrintWords Go.Proofs.YtkocigldchiifaaW.PrintLast Go.Proofs.YtkocigldchiifaaW.PrintMore
open Go.Shelf Go.Proofs.Ytkocigldchiifaa.QA
set_option linter.unusedVariables false
set_option linter.unusedSimpArgs false

/-- A table of rows of one's own: which rows are there, where they lie, and what is in them. -/
structure Mt (w : World) (base g n m : Nat) (t1 t2 : TypeId) (D : Nat → Prop) (B : Nat → Nat) (V : Nat → Nat → Value) : Prop where
 top : ∃ T : Array Value, T.size = n ∧ w.heap[g]? = some (.cells T t1 (0, 0)) ∧ ∀ r, r < n → (D r → T[r]? = some (.slice (some ⟨B r, 0, none⟩) m m)) ∧ (¬ D r → T[r]? = some (.slice none 0 0))
 row : ∀ r, r < n → D r → ∃ T : Array Value, T.size = m ∧ w.heap[B r]? = some (.cells T t2 (0, 0)) ∧ ∀ k, k < m → T[k]? = some (V r k)
 gb : base ≤ g
 rb : ∀ r, r < n → D r → base ≤ B r ∧ B r ≠ g
 inj : ∀ r r', r < n → r' < n → D r → D r' → B r = B r' → r = r'
variable {w : World} {base g n m : Nat} {t1 t2 : TypeId} {D : Nat → Prop} {B : Nat → Nat} {V : Nat → Nat → Value}
theorem Mt.lt (h : Mt w base g n m t1 t2 D B V) : g < w.heap.size := by
 obtain ⟨T, _, h1, _⟩ := h.top
 exact blk_lt h1
theorem Mt.cell0 (h : Mt w base g n m t1 t2 D B V) (r : Nat) (hr : r < n) (hd : D r) : w.cell? ⟨g, r, none⟩ = some (.slice (some ⟨B r, 0, none⟩) m m) := by
 obtain ⟨T, _, h1, h2⟩ := h.top
 exact (blk_cell h1 r).trans ((h2 r hr).1 hd)
theorem Mt.nil0 (h : Mt w base g n m t1 t2 D B V) (r : Nat) (hr : r < n) (hd : ¬ D r) : w.cell? ⟨g, r, none⟩ = some (.slice none 0 0) := by
 obtain ⟨T, _, h1, h2⟩ := h.top
 exact (blk_cell h1 r).trans ((h2 r hr).2 hd)
theorem Mt.fz0 (h : Mt w base g n m t1 t2 D B V) (r : Nat) : w.frozen? ⟨g, r, none⟩ = false := by
 obtain ⟨T, _, h1, h2⟩ := h.top
 exact blk_frozen h1 r
theorem Mt.cell1 (h : Mt w base g n m t1 t2 D B V) (r k : Nat) (hr : r < n) (hd : D r) (hk : k < m) : w.cell? ⟨B r, k, none⟩ = some (V r k) := by
 obtain ⟨T, _, h1, h2⟩ := h.row r hr hd
 exact (blk_cell h1 k).trans (h2 k hk)
theorem Mt.fz1 (h : Mt w base g n m t1 t2 D B V) (r k : Nat) (hr : r < n) (hd : D r) : w.frozen? ⟨B r, k, none⟩ = false := by
 obtain ⟨T, _, h1, h2⟩ := h.row r hr hd
 exact blk_frozen h1 k
theorem Mt.below {w' : World} (h : Mt w base g n m t1 t2 D B V) (hb : Below w.heap.size w w') : Mt w' base g n m t1 t2 D B V := by
 obtain ⟨⟨T, h1, h2, h3⟩, h4, h5, h6, h7⟩ := h
 refine ⟨⟨T, h1, blk_below h2 hb, h3⟩, fun r hr hd => ?_, h5, h6, h7⟩
 obtain ⟨T', e1, e2, e3⟩ := h4 r hr hd
 exact ⟨T', e1, blk_below e2 hb, e3⟩
theorem Mt.congr {D' : Nat → Prop} {V' : Nat → Nat → Value} (h : Mt w base g n m t1 t2 D B V) (hD : ∀ r, r < n → (D' r ↔ D r)) (hV : ∀ r k, r < n → D r → k < m → V' r k = V r k) : Mt w base g n m t1 t2 D' B V' := by
 obtain ⟨⟨T, h1, h2, h3⟩, h4, h5, h6, h7⟩ := h
 refine ⟨⟨T, h1, h2, fun r hr => ⟨fun hd => (h3 r hr).1 ((hD r hr).1 hd), fun hd => (h3 r hr).2 (fun e => hd ((hD r hr).2 e))⟩⟩, fun r hr hd => ?_, h5, fun r hr hd => h6 r hr ((hD r hr).1 hd), fun r r' hr hr' hd hd' => h7 r r' hr hr' ((hD r hr).1 hd) ((hD r' hr').1 hd')⟩
 obtain ⟨T', e1, e2, e3⟩ := h4 r hr ((hD r hr).1 hd)
 exact ⟨T', e1, e2, fun k hk => by rw [hV r k hr ((hD r hr).1 hd) hk]; exact e3 k hk⟩
/-- A store into a row. -/
theorem Mt.put (h : Mt w base g n m t1 t2 D B V) (r k : Nat) (v : Value) (hr : r < n) (hd : D r) (hk : k < m) : Mt (w.setCell ⟨B r, k, none⟩ v) base g n m t1 t2 D B (fun r' k' => if r' = r ∧ k' = k then v else V r' k') := by
 obtain ⟨⟨T, h1, h2, h3⟩, h4, h5, h6, h7⟩ := h
 refine ⟨⟨T, h1, blk_far h2 (fun e => (h6 r hr hd).2 e.symm) v, h3⟩, fun r' hr' hd' => ?_, h5, h6, h7⟩
 obtain ⟨T', e1, e2, e3⟩ := h4 r' hr' hd'
 by_cases e : r' = r
 · subst e
   refine ⟨T'.setIfInBounds k v, by simp [e1], blk_set e2 k v, fun k' hk' => ?_⟩
   by_cases ek : k' = k
   · subst ek
     simp [e1, hk]
   · simp only [ek, and_false, if_false]
     rw [Array.getElem?_setIfInBounds_ne (Ne.symm ek)]
     exact e3 k' hk'
 · refine ⟨T', e1, blk_far e2 (fun e' => e (h7 _ _ hr' hr hd' hd e')) v, fun k' hk' => ?_⟩
   simp only [e, false_and, if_false]
   exact e3 k' hk'
/-- A new row. -/
theorem Mt.new (h : Mt w base g n m t1 t2 D B V) (r b : Nat) (z : Value) (hr : r < n) (hd : ¬ D r) (hb : base ≤ b) (hg : b ≠ g) (hn : ∀ r', r' < n → D r' → B r' ≠ b) (hw : w.heap[b]? = some (.cells (madeCells #[z] m) t2 (0, 0))) :
  Mt (w.setCell ⟨g, r, none⟩ (.slice (some ⟨b, 0, none⟩) m m)) base g n m t1 t2 (fun r' => r' = r ∨ D r') (fun r' => if r' = r then b else B r') (fun r' k' => if r' = r then z else V r' k') := by
 obtain ⟨⟨T, h1, h2, h3⟩, h4, h5, h6, h7⟩ := h
 refine ⟨⟨T.setIfInBounds r (.slice (some ⟨b, 0, none⟩) m m), by simp [h1], blk_set h2 r _, fun r' hr' => ?_⟩, fun r' hr' hd' => ?_, h5, fun r' hr' hd' => ?_, fun r1 r2 hr1 hr2 hd1 hd2 he => ?_⟩
 · by_cases e : r' = r
   · subst e
     exact ⟨fun _ => by simp [h1, hr], fun h => (h (.inl rfl)).elim⟩
   · rw [Array.getElem?_setIfInBounds_ne (Ne.symm e)]
     simp only [e, if_false, false_or]
     exact h3 r' hr'
 · by_cases e : r' = r
   · subst e
     refine ⟨madeCells #[z] m, by simp [size_madeCells], ?_, fun k hk => ?_⟩
     · simp only [if_true]
       exact blk_far hw (show b ≠ g from hg) _
     · rw [← Array.getElem?_toList, toList_madeCells_one]
       simp [hk]
   · obtain ⟨T', e1, e2, e3⟩ := h4 r' hr' (hd'.resolve_left e)
     refine ⟨T', e1, ?_, fun k hk => ?_⟩
     · simp only [e, if_false]
       exact blk_far e2 (show B r' ≠ g from (h6 r' hr' (hd'.resolve_left e)).2) _
     · simp only [e, if_false]
       exact e3 k hk
 · by_cases e : r' = r
   · simp only [e, if_true]; exact ⟨hb, hg⟩
   · simp only [e, if_false]; exact h6 r' hr' (hd'.resolve_left e)
 · by_cases e1 : r1 = r <;> by_cases e2 : r2 = r
   · rw [e1, e2]
   · simp only [e1, e2, if_true, if_false] at he
     exact (hn r2 hr2 (hd2.resolve_left e2) he.symm).elim
   · simp only [e1, e2, if_true, if_false] at he
     exact (hn r1 hr1 (hd1.resolve_left e1) he).elim
   · simp only [e1, e2, if_false] at he
     exact h7 r1 r2 hr1 hr2 (hd1.resolve_left e1) (hd2.resolve_left e2) he
/-- A table without rows. -/
theorem Mt.start (w : World) (base n m : Nat) (t1 t2 : TypeId) (B : Nat → Nat) (V : Nat → Nat → Value) (hb : base ≤ w.heap.size) : Mt (w.alloc (.cells (madeCells #[.slice none 0 0] n) t1)) base w.heap.size n m t1 t2 (fun _ => False) B V := by
 refine ⟨⟨madeCells #[.slice none 0 0] n, by simp [size_madeCells], blk_new w _, fun r hr => ⟨fun h => h.elim, fun _ => ?_⟩⟩, fun _ _ h => h.elim, hb, fun _ _ h => h.elim, fun _ _ _ _ h => h.elim⟩
 rw [← Array.getElem?_toList, toList_madeCells_one]
 simp [hr]

end Go.Proofs.Ytkocigldchiifaa.H

/- The reference's rests. -/
namespace Go.Proofs.Ytkocigldchiifaa.H
open Go.RowKit Go.Proofs.YtkocigldchiifaaW.PrintWords Go.Proofs.YtkocigldchiifaaW.PrintLast Go.Proofs.YtkocigldchiifaaW.PrintMore
open Go.Shelf Go.Proofs.Ytkocigldchiifaa.QA

set_option linter.unusedVariables false
set_option linter.unusedSimpArgs false

theorem max2_mx (k k' : IntKind) (x y : Int) : Builtin.max2 (.int k x) (.int k' y) = pure (.int k (mx x y)) := max2_int k k' x y
theorem min2_mn (k k' : IntKind) (x y : Int) : Builtin.min2 (.int k x) (.int k' y) = pure (.int k (mn x y)) := min2_int k k' x y
section
attribute [local go_sem] max2_mx min2_mn max_two min_two
end
end Go.Proofs.Ytkocigldchiifaa.H
