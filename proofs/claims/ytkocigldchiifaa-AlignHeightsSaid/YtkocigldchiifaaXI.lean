/- Texts HM, PA, HN, HO of this chapter, one behind the other. -/
import Derived.Carry
import Derived.LoopIn
import Derived.LoopNIn
import Derived.OwnWalkIn
import Derived.TacticsInMore
import Derived.Test.YtkocigldchiifaaQA4
import Derived.Test.YtkocigldchiifaaXA
import Derived.Test.YtkocigldchiifaaXB

/- Tables of rows of one's own. -/
namespace Go.Proofs.Ytkocigldchiifaa.H
open Go.RowKit Go.Proofs.YtkocigldchiifaaW.PrintWords Go.Proofs.YtkocigldchiifaaW.PrintLast Go.Proofs.YtkocigldchiifaaW.PrintMore
open Go.Shelf Go.Proofs.Ytkocigldchiifaa.QA
set_option linter.unusedVariables false
set_option linter.unusedSimpArgs false

/-- A table of rows of one's own: which rows are there, where they lie, and what is in them. -/
structure Mt (w : World) (base g n m : Nat) (t1 t2 : TypeId) (D : Nat → Prop) (B : Nat → Nat) (V : Nat → Nat → Value) : Prop where
 top : ∃ T : Array Value, T.size = n ∧ w.heap[g]? = some (.cells T t1 (0, 0)) ∧ ∀ r, r < n → (D r → T[r]? = some (.slice (some ⟨B r, 0, none⟩) m m)) ∧ (¬ D r → T[r]? = some (.slice none 0 0))
 row : ∀ r, r < n → D r → ∃ T : Array Value, T.size = m ∧ w.heap[B r]? = some (.cells T t2 (0, 0)) ∧ ∀ k, k < m → T[k]? = some (V r k)
 gb : base ≤ g
 rb : ∀ r, r < n → D r → base ≤ B r ∧ B r ≠ g
 inj : ∀ r r', r < n → r' < n → D r → D r' → B r = B r' → r = r'
variable {w : World} {base g n m : Nat} {t1 t2 : TypeId} {D : Nat → Prop} {B : Nat → Nat} {V : Nat → Nat → Value}
theorem Mt.lt (h : Mt w base g n m t1 t2 D B V) : g < w.heap.size := by
 obtain ⟨T, _, h1, _⟩ := h.top
 exact blk_lt h1
theorem Mt.cell0 (h : Mt w base g n m t1 t2 D B V) (r : Nat) (hr : r < n) (hd : D r) : w.cell? ⟨g, r, none⟩ = some (.slice (some ⟨B r, 0, none⟩) m m) := by
 obtain ⟨T, _, h1, h2⟩ := h.top
 exact (blk_cell h1 r).trans ((h2 r hr).1 hd)
theorem Mt.nil0 (h : Mt w base g n m t1 t2 D B V) (r : Nat) (hr : r < n) (hd : ¬ D r) : w.cell? ⟨g, r, none⟩ = some (.slice none 0 0) := by
 obtain ⟨T, _, h1, h2⟩ := h.top
 exact (blk_cell h1 r).trans ((h2 r hr).2 hd)
theorem Mt.fz0 (h : Mt w base g n m t1 t2 D B V) (r : Nat) : w.frozen? ⟨g, r, none⟩ = false := by
 obtain ⟨T, _, h1, h2⟩ := h.top
 exact blk_frozen h1 r
theorem Mt.cell1 (h : Mt w base g n m t1 t2 D B V) (r k : Nat) (hr : r < n) (hd : D r) (hk : k < m) : w.cell? ⟨B r, k, none⟩ = some (V r k) := by
 obtain ⟨T, _, h1, h2⟩ := h.row r hr hd
 exact (blk_cell h1 k).trans (h2 k hk)
theorem Mt.fz1 (h : Mt w base g n m t1 t2 D B V) (r k : Nat) (hr : r < n) (hd : D r) : w.frozen? ⟨B r, k, none⟩ = false := by
 obtain ⟨T, _, h1, h2⟩ := h.row r hr hd
 exact blk_frozen h1 k
theorem Mt.below {w' : World} (h : Mt w base g n m t1 t2 D B V) (hb : Below w.heap.size w w') : Mt w' base g n m t1 t2 D B V := by
 obtain ⟨⟨T, h1, h2, h3⟩, h4, h5, h6, h7⟩ := h
 refine ⟨⟨T, h1, blk_below h2 hb, h3⟩, fun r hr hd => ?_, h5, h6, h7⟩
 obtain ⟨T', e1, e2, e3⟩ := h4 r hr hd
 exact ⟨T', e1, blk_below e2 hb, e3⟩
theorem Mt.congr {D' : Nat → Prop} {V' : Nat → Nat → Value} (h : Mt w base g n m t1 t2 D B V) (hD : ∀ r, r < n → (D' r ↔ D r)) (hV : ∀ r k, r < n → D r → k < m → V' r k = V r k) : Mt w base g n m t1 t2 D' B V' := by
 obtain ⟨⟨T, h1, h2, h3⟩, h4, h5, h6, h7⟩ := h
 refine ⟨⟨T, h1, h2, fun r hr => ⟨fun hd => (h3 r hr).1 ((hD r hr).1 hd), fun hd => (h3 r hr).2 (fun e => hd ((hD r hr).2 e))⟩⟩, fun r hr hd => ?_, h5, fun r hr hd => h6 r hr ((hD r hr).1 hd), fun r r' hr hr' hd hd' => h7 r r' hr hr' ((hD r hr).1 hd) ((hD r' hr').1 hd')⟩
 obtain ⟨T', e1, e2, e3⟩ := h4 r hr ((hD r hr).1 hd)
 exact ⟨T', e1, e2, fun k hk => by rw [hV r k hr ((hD r hr).1 hd) hk]; exact e3 k hk⟩
/-- A store into a row. -/
theorem Mt.put (h : Mt w base g n m t1 t2 D B V) (r k : Nat) (v : Value) (hr : r < n) (hd : D r) (hk : k < m) : Mt (w.setCell ⟨B r, k, none⟩ v) base g n m t1 t2 D B (fun r' k' => if r' = r ∧ k' = k then v else V r' k') := by
 obtain ⟨⟨T, h1, h2, h3⟩, h4, h5, h6, h7⟩ := h
 refine ⟨⟨T, h1, blk_far h2 (fun e => (h6 r hr hd).2 e.symm) v, h3⟩, fun r' hr' hd' => ?_, h5, h6, h7⟩
 obtain ⟨T', e1, e2, e3⟩ := h4 r' hr' hd'
 by_cases e : r' = r
 · subst e
   refine ⟨T'.setIfInBounds k v, by simp [e1], blk_set e2 k v, fun k' hk' => ?_⟩
   by_cases ek : k' = k
   · subst ek
     simp [e1, hk]
   · simp only [ek, and_false, if_false]
     rw [Array.getElem?_setIfInBounds_ne (Ne.symm ek)]
     exact e3 k' hk'
 · refine ⟨T', e1, blk_far e2 (fun e' => e (h7 _ _ hr' hr hd' hd e')) v, fun k' hk' => ?_⟩
   simp only [e, false_and, if_false]
   exact e3 k' hk'
/-- A new row. -/
theorem Mt.new (h : Mt w base g n m t1 t2 D B V) (r b : Nat) (z : Value) (hr : r < n) (hd : ¬ D r) (hb : base ≤ b) (hg : b ≠ g) (hn : ∀ r', r' < n → D r' → B r' ≠ b) (hw : w.heap[b]? = some (.cells (madeCells #[z] m) t2 (0, 0))) :
  Mt (w.setCell ⟨g, r, none⟩ (.slice (some ⟨b, 0, none⟩) m m)) base g n m t1 t2 (fun r' => r' = r ∨ D r') (fun r' => if r' = r then b else B r') (fun r' k' => if r' = r then z else V r' k') := by
 obtain ⟨⟨T, h1, h2, h3⟩, h4, h5, h6, h7⟩ := h
 refine ⟨⟨T.setIfInBounds r (.slice (some ⟨b, 0, none⟩) m m), by simp [h1], blk_set h2 r _, fun r' hr' => ?_⟩, fun r' hr' hd' => ?_, h5, fun r' hr' hd' => ?_, fun r1 r2 hr1 hr2 hd1 hd2 he => ?_⟩
 · by_cases e : r' = r
   · subst e
     exact ⟨fun _ => by simp [h1, hr], fun h => (h (.inl rfl)).elim⟩
   · rw [Array.getElem?_setIfInBounds_ne (Ne.symm e)]
     simp only [e, if_false, false_or]
     exact h3 r' hr'
 · by_cases e : r' = r
   · subst e
     refine ⟨madeCells #[z] m, by simp [size_madeCells], ?_, fun k hk => ?_⟩
     · simp only [if_true]
       exact blk_far hw (show b ≠ g from hg) _
     · rw [← Array.getElem?_toList, toList_madeCells_one]
       simp [hk]
   · obtain ⟨T', e1, e2, e3⟩ := h4 r' hr' (hd'.resolve_left e)
     refine ⟨T', e1, ?_, fun k hk => ?_⟩
     · simp only [e, if_false]
       exact blk_far e2 (show B r' ≠ g from (h6 r' hr' (hd'.resolve_left e)).2) _
     · simp only [e, if_false]
       exact e3 k hk
 · by_cases e : r' = r
   · simp only [e, if_true]; exact ⟨hb, hg⟩
   · simp only [e, if_false]; exact h6 r' hr' (hd'.resolve_left e)
 · by_cases e1 : r1 = r <;> by_cases e2 : r2 = r
   · rw [e1, e2]
   · simp only [e1, e2, if_true, if_false] at he
     exact (hn r2 hr2 (hd2.resolve_left e2) he.symm).elim
   · simp only [e1, e2, if_true, if_false] at he
     exact (hn r1 hr1 (hd1.resolve_left e1) he).elim
   · simp only [e1, e2, if_false] at he
     exact h7 r1 r2 hr1 hr2 (hd1.resolve_left e1) (hd2.resolve_left e2) he
/-- A table without rows. -/
theorem Mt.start (w : World) (base n m : Nat) (t1 t2 : TypeId) (B : Nat → Nat) (V : Nat → Nat → Value) (hb : base ≤ w.heap.size) : Mt (w.alloc (.cells (madeCells #[.slice none 0 0] n) t1)) base w.heap.size n m t1 t2 (fun _ => False) B V := by
 refine ⟨⟨madeCells #[.slice none 0 0] n, by simp [size_madeCells], blk_new w _, fun r hr => ⟨fun h => h.elim, fun _ => ?_⟩⟩, fun _ _ h => h.elim, hb, fun _ _ h => h.elim, fun _ _ _ _ h => h.elim⟩
 rw [← Array.getElem?_toList, toList_madeCells_one]
 simp [hr]

end Go.Proofs.Ytkocigldchiifaa.H

/- The reference's events; the rests of pairs, step by step. -/
namespace Go.Proofs.Ytkocigldchiifaa.H
open Go.RowKit Go.Proofs.YtkocigldchiifaaW.PrintWords Go.Proofs.YtkocigldchiifaaW.PrintLast Go.Proofs.YtkocigldchiifaaW.PrintMore
open Go.Shelf Go.Proofs.Ytkocigldchiifaa.QA
set_option linter.unusedVariables false
set_option linter.unusedSimpArgs false

/-- An event, as the reference has it. -/
def ev (x : S59) : S79 := ⟨x.f0, x.f1, x.f2⟩
theorem rd_ev (l : List S59) (i : Int) : rd_T79 (l.map ev) i = ev (rd_T59 l i) := by
 unfold rd_T79 rd_T59
 rw [List.getD_eq_getElem?_getD, List.getElem?_map, List.getD_eq_getElem?_getD]
 cases l[i.toNat]? <;> rfl
theorem apartR_f (a b : Int) (ha : 0 ≤ a ∧ a ≤ 1000) (hb : 0 ≤ b ∧ b ≤ 1000) : pianolaref07_apart.f a b = some (apartD a b) := by
 unfold pianolaref07_apart.f apartD mx mn
 congr 1
 rw [w64' _ (by split <;> split <;> omega) (by split <;> split <;> omega)]
 split <;> split <;> split <;> omega
theorem dist_f {x y : S59} (hx : goodB x = true) (hy : goodB y = true) : pianolaref07_distance.f x.f0 x.f1 x.f2 y.f0 y.f1 y.f2 = some (farD x y) := by
 obtain ⟨_, h2, h3⟩ := good_in hx
 obtain ⟨_, h5, h6⟩ := good_in hy
 unfold pianolaref07_distance.f farD
 rw [apartR_f _ _ h2 h5, apartR_f _ _ h3 h6]
 have q1 := apartD_in x.f1 y.f1 1000 h2 h5
 have q2 := apartD_in x.f2 y.f2 1000 h3 h6
 split
 · show some (wrap64 _) = _
   rw [w64' _ (by omega) (by omega)]
 · rfl
theorem mn_min (a b : Int) : mn a b = min a b := by unfold mn; split <;> omega
end Go.Proofs.Ytkocigldchiifaa.H

/- The reference's rests. -/
namespace Go.Proofs.Ytkocigldchiifaa.H
open Go.RowKit Go.Proofs.YtkocigldchiifaaW.PrintWords Go.Proofs.YtkocigldchiifaaW.PrintLast Go.Proofs.YtkocigldchiifaaW.PrintMore
open Go.Shelf Go.Proofs.Ytkocigldchiifaa.QA

set_option linter.unusedVariables false
set_option linter.unusedSimpArgs false

theorem max2_mx (k k' : IntKind) (x y : Int) : Builtin.max2 (.int k x) (.int k' y) = pure (.int k (mx x y)) := max2_int k k' x y
theorem min2_mn (k k' : IntKind) (x y : Int) : Builtin.min2 (.int k x) (.int k' y) = pure (.int k (mn x y)) := min2_int k k' x y
section
attribute [local go_sem] max2_mx min2_mn max_two min_two
theorem wrap_down (i : Nat) (h : i ≤ 1000000) : wrap64 ((i : Int) - 1) = (i : Int) - 1 := w64' _ (by omega) (by omega)
theorem wrap_up (i : Nat) (h : i ≤ 1000000) : wrap64 ((i : Int) + 1) = ((i + 1 : Nat) : Int) := by rw [w64' _ (by omega) (by omega)]; rfl
theorem info63 : (Try.prog.info? 63).map (fun i => (i.zero, i.size, i.bytes)) = some (some (.slice none 0 0), 1, 24) := by kernel_rfl
end
end Go.Proofs.Ytkocigldchiifaa.H

/- The reference's rests, as a list of lists. -/
namespace Go.Proofs.Ytkocigldchiifaa.H
open Go.RowKit Go.Proofs.YtkocigldchiifaaW.PrintWords Go.Proofs.YtkocigldchiifaaW.PrintLast Go.Proofs.YtkocigldchiifaaW.PrintMore
open Go.Shelf Go.Proofs.Ytkocigldchiifaa.QA
set_option linter.unusedVariables false
set_option linter.unusedSimpArgs false

/-- A table of numbers, as an own row of own rows. -/
theorem Mt.S {w : World} {base g n m : Nat} {B : Nat → Nat} {V : Nat → Nat → Value} (h : Mt w base g n m 63 3 (fun _ => True) B V) (hn : n ≤ 1000) (hm : m ≤ 1000) (xs : List (List Int)) (hx : xs.length = n) (hr : ∀ r x, xs[r]? = some x → x.length = m ∧ ∀ k, k < m → V r k = .int .i64 (x.getD k 0)) :
  Kd.S (Kd.slice 3 (Kd.int .i64)) 63 w base (fun _ => True) (.slice (some ⟨g, 0, none⟩) n n) xs := by
 obtain ⟨⟨T, h1, h2, h3⟩, h4, h5, h6, h7⟩ := h
 have hM : maxLen = 9223372036854775807 := rfl
 have hown : w.ownsRow base 63 1 (.slice (some ⟨g, 0, none⟩) n n) n T.toList := ⟨by simp [h1], .inr ⟨g, n, T, rfl, h5, h2, Nat.le_refl _, by omega, by simp [h1], by rw [Nat.mul_one, ← h1, ← Array.length_toList]; exact List.take_length⟩⟩
 obtain ⟨f, hf⟩ := Kd.reps_tag (d := Kd.slice 3 (Kd.int .i64)) (w := w) (base := base) (ok := fun k => True ∧ some k ≠ (Value.slice (some ⟨g, 0, none⟩) n n).ownBlock) (xs := xs) (inner := T.toList) (fun j k => j < n ∧ k = B j)
  (fun i j k hi hj => h7 i j hi.1 hj.1 trivial trivial (hi.2.symm.trans hj.2)) (fun j k hj => ⟨trivial, fun e => (h6 j hj.1 trivial).2 (by rw [← hj.2]; injection e)⟩)
  (by show _ = xs.length * 1; simp [h1, hx]) (fun j x hj => by
   have hjn : j < n := by rw [← hx]; exact (List.getElem?_eq_some_iff.1 hj).1
   obtain ⟨hlx, hvx⟩ := hr j x hj
   have ht := (h3 j hjn).1 trivial
   have hd : (T.toList.drop (j * 1)).take 1 = [.slice (some ⟨B j, 0, none⟩) m m] := by
    rw [Nat.mul_one, List.take_one, List.head?_drop, Array.getElem?_toList, ht]; rfl
   obtain ⟨T', e1, e2, e3⟩ := h4 j hjn trivial
   show (Kd.slice 3 (Kd.int .i64)).M w base _ x ((T.toList.drop (j * 1)).take 1)
   rw [hd]
   refine ⟨_, rfl, ?_⟩
   refine Kd.R_of_own (enc := Value.int .i64) ?_ (fun k hk => ⟨hjn, ?_⟩)
   · have hT : T'.toList = encs (Value.int .i64) x := by
      refine List.ext_getElem? fun k => ?_
      by_cases hk : k < m
      · rw [Array.getElem?_toList, e3 k hk, hvx k hk]
        unfold encs
        rw [List.getElem?_map, List.getD_eq_getElem?_getD, List.getElem?_eq_getElem (by omega)]
        rfl
      · rw [List.getElem?_eq_none (by simp [e1]; omega), List.getElem?_eq_none (by simp [encs]; omega)]
     rw [← hT]
     refine ⟨by simp [e1, hlx], .inr ⟨B j, m, T', by rw [hlx], (h6 j hjn trivial).1, e2, by omega, by omega, by simp [e1], ?_⟩⟩
     rw [Nat.mul_one, hlx, ← e1, ← Array.length_toList]; exact List.take_length
   · injection hk with hk
     exact hk.symm)
 exact ⟨f, fun _ _ => trivial, T.toList, by rw [List.length_zipIdx, hx]; exact hown, hf⟩
def vE (x : S79) : S59 := ⟨x.f0, x.f1, x.f2⟩
def restsM (a b : List S59) : List (List Int) := (List.range a.length).map fun (i : Nat) => (List.range b.length).map fun (k : Nat) => restI a b (i : Int) (k : Int)
def pianolaref07_rests.f (l0 l1 : List S79) : Option (List (List Int)) := if align_Check.f (l0.map vE) (l1.map vE) = some 0 then some (restsM (l0.map vE) (l1.map vE)) else none
end Go.Proofs.Ytkocigldchiifaa.H
