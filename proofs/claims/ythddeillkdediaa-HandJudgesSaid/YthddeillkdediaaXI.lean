/- Texts MT, PS, HV, HK of this chapter, one behind the other. -/
import Derived.BigQuiet
import Derived.Carry
import Derived.LoopIn
import Derived.LoopNIn
import Derived.OwnWalkIn
import Derived.StillTailTactics
import Derived.TacticsInMore
import Derived.Test.YthddeillkdediaaXF
import Derived.Test.YthddeillkdediaaXH

/- Tables of rows of one's own. -/
namespace Go.Proofs.Ythddeillkdediaa.H
open Go.RowKit Go.Proofs.YthddeillkdediaaW.PrintWords Go.Proofs.YthddeillkdediaaW.PrintLast Go.Proofs.YthddeillkdediaaW.PrintMore
open Go.Shelf Go.Proofs.Ythddeillkdediaa.QA
set_option linter.unusedVariables false
set_option linter.unusedSimpArgs false

/-- A table of rows of one's own: which rows are there, where they lie, and what is in them. -/
structure Mt (w : World) (base g n m : Nat) (t1 t2 : TypeId) (D : Nat → Prop) (B : Nat → Nat) (V : Nat → Nat → Value) : Prop where
 top : ∃ T : Array Value, T.size = n ∧ w.heap[g]? = some (.cells T t1 (0, 0)) ∧ ∀ r, r < n → (D r → T[r]? = some (.slice (some ⟨B r, 0, none⟩) m m)) ∧ (¬ D r → T[r]? = some (.slice none 0 0))
 row : ∀ r, r < n → D r → ∃ T : Array Value, T.size = m ∧ w.heap[B r]? = some (.cells T t2 (0, 0)) ∧ ∀ k, k < m → T[k]? = some (V r k)
 gb : base ≤ g
 rb : ∀ r, r < n → D r → base ≤ B r ∧ B r ≠ g
 inj : ∀ r r', r < n → r' < n → D r → D r' → B r = B r' → r = r'
variable {w : World} {base g n m : Nat} {t1 t2 : TypeId} {D : Nat → Prop} {B : Nat → Nat} {V : Nat → Nat → Value}
theorem Mt.lt (h : Mt w base g n m t1 t2 D B V) : g < w.heap.size := by
 obtain ⟨T, _, h1, _⟩ := h.top
 exact blk_lt h1
theorem Mt.cell0 (h : Mt w base g n m t1 t2 D B V) (r : Nat) (hr : r < n) (hd : D r) : w.cell? ⟨g, r, none⟩ = some (.slice (some ⟨B r, 0, none⟩) m m) := by
 obtain ⟨T, _, h1, h2⟩ := h.top
 exact (blk_cell h1 r).trans ((h2 r hr).1 hd)
theorem Mt.nil0 (h : Mt w base g n m t1 t2 D B V) (r : Nat) (hr : r < n) (hd : ¬ D r) : w.cell? ⟨g, r, none⟩ = some (.slice none 0 0) := by
 obtain ⟨T, _, h1, h2⟩ := h.top
 exact (blk_cell h1 r).trans ((h2 r hr).2 hd)
theorem Mt.fz0 (h : Mt w base g n m t1 t2 D B V) (r : Nat) : w.frozen? ⟨g, r, none⟩ = false := by
 obtain ⟨T, _, h1, h2⟩ := h.top
 exact blk_frozen h1 r
theorem Mt.cell1 (h : Mt w base g n m t1 t2 D B V) (r k : Nat) (hr : r < n) (hd : D r) (hk : k < m) : w.cell? ⟨B r, k, none⟩ = some (V r k) := by
 obtain ⟨T, _, h1, h2⟩ := h.row r hr hd
 exact (blk_cell h1 k).trans (h2 k hk)
theorem Mt.fz1 (h : Mt w base g n m t1 t2 D B V) (r k : Nat) (hr : r < n) (hd : D r) : w.frozen? ⟨B r, k, none⟩ = false := by
 obtain ⟨T, _, h1, h2⟩ := h.row r hr hd
 exact blk_frozen h1 k
theorem Mt.below {w' : World} (h : Mt w base g n m t1 t2 D B V) (hb : Below w.heap.size w w') : Mt w' base g n m t1 t2 D B V := by
 obtain ⟨⟨T, h1, h2, h3⟩, h4, h5, h6, h7⟩ := h
 refine ⟨⟨T, h1, blk_below h2 hb, h3⟩, fun r hr hd => ?_, h5, h6, h7⟩
 obtain ⟨T', e1, e2, e3⟩ := h4 r hr hd
 exact ⟨T', e1, blk_below e2 hb, e3⟩
theorem Mt.congr {D' : Nat → Prop} {V' : Nat → Nat → Value} (h : Mt w base g n m t1 t2 D B V) (hD : ∀ r, r < n → (D' r ↔ D r)) (hV : ∀ r k, r < n → D r → k < m → V' r k = V r k) : Mt w base g n m t1 t2 D' B V' := by
 obtain ⟨⟨T, h1, h2, h3⟩, h4, h5, h6, h7⟩ := h
 refine ⟨⟨T, h1, h2, fun r hr => ⟨fun hd => (h3 r hr).1 ((hD r hr).1 hd), fun hd => (h3 r hr).2 (fun e => hd ((hD r hr).2 e))⟩⟩, fun r hr hd => ?_, h5, fun r hr hd => h6 r hr ((hD r hr).1 hd), fun r r' hr hr' hd hd' => h7 r r' hr hr' ((hD r hr).1 hd) ((hD r' hr').1 hd')⟩
 obtain ⟨T', e1, e2, e3⟩ := h4 r hr ((hD r hr).1 hd)
 exact ⟨T', e1, e2, fun k hk => by rw [hV r k hr ((hD r hr).1 hd) hk]; exact e3 k hk⟩
/-- A store into a row. -/
theorem Mt.put (h : Mt w base g n m t1 t2 D B V) (r k : Nat) (v : Value) (hr : r < n) (hd : D r) (hk : k < m) : Mt (w.setCell ⟨B r, k, none⟩ v) base g n m t1 t2 D B (fun r' k' => if r' = r ∧ k' = k then v else V r' k') := by
 obtain ⟨⟨T, h1, h2, h3⟩, h4, h5, h6, h7⟩ := h
 refine ⟨⟨T, h1, blk_far h2 (fun e => (h6 r hr hd).2 e.symm) v, h3⟩, fun r' hr' hd' => ?_, h5, h6, h7⟩
 obtain ⟨T', e1, e2, e3⟩ := h4 r' hr' hd'
 by_cases e : r' = r
 · subst e
   refine ⟨T'.setIfInBounds k v, by simp [e1], blk_set e2 k v, fun k' hk' => ?_⟩
   by_cases ek : k' = k
   · subst ek
     simp [e1, hk]
   · simp only [ek, and_false, if_false]
     rw [Array.getElem?_setIfInBounds_ne (Ne.symm ek)]
     exact e3 k' hk'
 · refine ⟨T', e1, blk_far e2 (fun e' => e (h7 _ _ hr' hr hd' hd e')) v, fun k' hk' => ?_⟩
   simp only [e, false_and, if_false]
   exact e3 k' hk'
/-- A new row. -/
theorem Mt.new (h : Mt w base g n m t1 t2 D B V) (r b : Nat) (z : Value) (hr : r < n) (hd : ¬ D r) (hb : base ≤ b) (hg : b ≠ g) (hn : ∀ r', r' < n → D r' → B r' ≠ b) (hw : w.heap[b]? = some (.cells (madeCells #[z] m) t2 (0, 0))) :
  Mt (w.setCell ⟨g, r, none⟩ (.slice (some ⟨b, 0, none⟩) m m)) base g n m t1 t2 (fun r' => r' = r ∨ D r') (fun r' => if r' = r then b else B r') (fun r' k' => if r' = r then z else V r' k') := by
 obtain ⟨⟨T, h1, h2, h3⟩, h4, h5, h6, h7⟩ := h
 refine ⟨⟨T.setIfInBounds r (.slice (some ⟨b, 0, none⟩) m m), by simp [h1], blk_set h2 r _, fun r' hr' => ?_⟩, fun r' hr' hd' => ?_, h5, fun r' hr' hd' => ?_, fun r1 r2 hr1 hr2 hd1 hd2 he => ?_⟩
 · by_cases e : r' = r
   · subst e
     exact ⟨fun _ => by simp [h1, hr], fun h => (h (.inl rfl)).elim⟩
   · rw [Array.getElem?_setIfInBounds_ne (Ne.symm e)]
     simp only [e, if_false, false_or]
     exact h3 r' hr'
 · by_cases e : r' = r
   · subst e
     refine ⟨madeCells #[z] m, by simp [size_madeCells], ?_, fun k hk => ?_⟩
     · simp only [if_true]
       exact blk_far hw (show b ≠ g from hg) _
     · rw [← Array.getElem?_toList, toList_madeCells_one]
       simp [hk]
   · obtain ⟨T', e1, e2, e3⟩ := h4 r' hr' (hd'.resolve_left e)
     refine ⟨T', e1, ?_, fun k hk => ?_⟩
     · simp only [e, if_false]
       exact blk_far e2 (show B r' ≠ g from (h6 r' hr' (hd'.resolve_left e)).2) _
     · simp only [e, if_false]
       exact e3 k hk
 · by_cases e : r' = r
   · simp only [e, if_true]; exact ⟨hb, hg⟩
   · simp only [e, if_false]; exact h6 r' hr' (hd'.resolve_left e)
 · by_cases e1 : r1 = r <;> by_cases e2 : r2 = r
   · rw [e1, e2]
   · simp only [e1, e2, if_true, if_false] at he
     exact (hn r2 hr2 (hd2.resolve_left e2) he.symm).elim
   · simp only [e1, e2, if_true, if_false] at he
     exact (hn r1 hr1 (hd1.resolve_left e1) he).elim
   · simp only [e1, e2, if_false] at he
     exact h7 r1 r2 hr1 hr2 (hd1.resolve_left e1) (hd2.resolve_left e2) he
/-- A table without rows. -/
theorem Mt.start (w : World) (base n m : Nat) (t1 t2 : TypeId) (B : Nat → Nat) (V : Nat → Nat → Value) (hb : base ≤ w.heap.size) : Mt (w.alloc (.cells (madeCells #[.slice none 0 0] n) t1)) base w.heap.size n m t1 t2 (fun _ => False) B V := by
 refine ⟨⟨madeCells #[.slice none 0 0] n, by simp [size_madeCells], blk_new w _, fun r hr => ⟨fun h => h.elim, fun _ => ?_⟩⟩, fun _ _ h => h.elim, hb, fun _ _ h => h.elim, fun _ _ _ _ h => h.elim⟩
 rw [← Array.getElem?_toList, toList_madeCells_one]
 simp [hr]


theorem OwnI.empty {W : World} {base : Nat} (hb : base ≤ W.heap.size) : OwnI (W.alloc (.cells #[] 3)) base (.slice (some ⟨W.heap.size, 0, none⟩) 0 0) [] :=
 ⟨by simp [cellsI], .inr ⟨W.heap.size, 0, #[], rfl, hb, blk_new W _, by simp, by simp, by simp, by simp [cellsI]⟩⟩


end Go.Proofs.Ythddeillkdediaa.H

/- The reference's table, in plain. -/
namespace Go.Proofs.Ythddeillkdediaa.H
open Go.RowKit Go.Proofs.YthddeillkdediaaW.PrintWords Go.Proofs.YthddeillkdediaaW.PrintLast Go.Proofs.YthddeillkdediaaW.PrintMore
open Go.Shelf Go.Proofs.Ythddeillkdediaa.QA
set_option linter.unusedVariables false
set_option linter.unusedSimpArgs false


/-- How many sets of the first ranks there are, by size and sum. -/
def tv (n : Nat) (rs : List Int) (i k s : Nat) : Int := wT n (rs.take i) ((k : Int), (s : Int))
theorem tv_zero (n : Nat) (rs : List Int) (k s : Nat) : tv n rs 0 k s = if k = 0 ∧ s = 0 then 1 else 0 := by
 unfold tv
 rw [List.take_zero]
 show startT ((k : Int), (s : Int)) = _
 unfold startT
 by_cases h : k = 0 ∧ s = 0
 · rw [if_pos h, if_pos (by rw [h.1, h.2]; rfl)]
 · rw [if_neg h, if_neg (fun e => h ⟨by have := (Prod.mk.inj e).1; omega, by have := (Prod.mk.inj e).2; omega⟩)]
theorem tv_in (n : Nat) (rs : List Int) (hr : ∀ r ∈ rs, 0 ≤ r ∧ r ≤ 1000) (i k s : Nat) (hi : i ≤ rs.length) (hl : rs.length ≤ 32) : 0 ≤ tv n rs i k s ∧ tv n rs i k s ≤ 4294967296 := by
 have h := wT_ws n rs hr i hi
 refine ⟨h.pos _, Int.le_trans (h.le _) ?_⟩
 have : 2 ^ i ≤ 2 ^ 32 := Nat.pow_le_pow_right (by omega) (by omega)
 have e : (2 : Nat) ^ 32 = 4294967296 := by decide
 omega
theorem tv_succ (n : Nat) (rs : List Int) (hr : ∀ r ∈ rs, 0 ≤ r ∧ r ≤ 1000) (i k s r : Nat) (hi : i < rs.length) (hk : k ≤ n) (hrd : rd rs (i : Int) = (r : Int)) :
  tv n rs (i + 1) k s = tv n rs i k s + (if 0 < k ∧ r ≤ s then tv n rs i (k - 1) (s - r) else 0) := by
 unfold tv
 rw [take_rd rs hi, wT_snoc, hrd]
 have h := wT_ws n rs hr i (by omega)
 show wT n (rs.take i) ((k : Int), (s : Int)) + (if (k : Int) - 1 = (n : Int) then 0 else wT n (rs.take i) ((k : Int) - 1, (s : Int) - (r : Int))) = _
 rw [if_neg (by omega)]
 congr 1
 by_cases c : 0 < k ∧ r ≤ s
 · rw [if_pos c, show (k : Int) - 1 = ((k - 1 : Nat) : Int) by omega, show (s : Int) - (r : Int) = ((s - r : Nat) : Int) by omega]
 · rw [if_neg c]
   refine Classical.byContradiction fun e => ?_
   have h2 := h.sup _ e
   simp only at h2
   omega
/-- The table within a round: rows above k, and row k above s, are done. -/
def stv (n : Nat) (rs : List Int) (i k s k' s' : Nat) : Int := if k < k' ∨ (k' = k ∧ s < s') then tv n rs (i + 1) k' s' else tv n rs i k' s'
theorem stv_row (n : Nat) (rs : List Int) (i k s k' s' : Nat) (hs : s' ≤ s) : stv n rs i k s k' s' = if k < k' then tv n rs (i + 1) k' s' else tv n rs i k' s' := by
 unfold stv
 by_cases h : k < k'
 · rw [if_pos (.inl h), if_pos h]
 · rw [if_neg (by omega), if_neg h]
theorem stv_out (n : Nat) (rs : List Int) (hr : ∀ r ∈ rs, 0 ≤ r ∧ r ≤ 1000) (i k s k' s' r : Nat) (hi : i < rs.length) (hk : k ≤ n) (hk0 : 0 < k) (hrd : rd rs (i : Int) = (r : Int)) (hs : s < r) (hk' : k' ≤ n) :
  stv n rs i k s k' s' = if k - 1 < k' then tv n rs (i + 1) k' s' else tv n rs i k' s' := by
 unfold stv
 by_cases h : k - 1 < k'
 · rw [if_pos h]
   by_cases h2 : k < k' ∨ (k' = k ∧ s < s')
   · rw [if_pos h2]
   · rw [if_neg h2, tv_succ n rs hr i k' s' r hi hk' hrd, if_neg (by omega), Int.add_zero]
 · rw [if_neg (by omega), if_neg h]
theorem row_zero (n : Nat) (rs : List Int) (hr : ∀ r ∈ rs, 0 ≤ r ∧ r ≤ 1000) (i k' s' r : Nat) (hi : i < rs.length) (hrd : rd rs (i : Int) = (r : Int)) :
  (if 0 < k' then tv n rs (i + 1) k' s' else tv n rs i k' s') = tv n rs (i + 1) k' s' := by
 by_cases h : 0 < k'
 · rw [if_pos h]
 · rw [if_neg h, tv_succ n rs hr i k' s' r hi (by omega) hrd, if_neg (by omega), Int.add_zero]
theorem ints_cells {W : World} {ad : Addr} {n : Nat} {xs : List Int} (h : Kd.C (Kd.int .i64) W (some ad) n xs) : ∀ j u, (cellsI xs)[j]? = some u → W.cell? (ad.add j) = some u := fun j u hu => by
 obtain ⟨h1, h2, h3⟩ := h
 have hj : j < xs.length := by have := (List.getElem?_eq_some_iff.1 hu).1; rwa [cellsI_len] at this
 obtain ⟨ad2, had, hc⟩ := h3 (by omega)
 cases had
 obtain ⟨c, _, hK, hc2⟩ := hc j xs[j] (List.getElem?_eq_getElem hj)
 have e : c = [.int .i64 xs[j]] := hK
 have e2 : u = .int .i64 xs[j] := by
  unfold cellsI at hu
  rw [List.getElem?_map, List.getElem?_eq_getElem hj] at hu
  exact (Option.some.inj hu).symm
 rw [e2]
 have := hc2 0 (.int .i64 xs[j]) (by rw [e]; rfl)
 rw [show (Kd.int IntKind.i64).sz = 1 from rfl, Nat.mul_one, Nat.add_zero] at this
 exact this
theorem C_some {W : World} {A : Option Addr} {n : Nat} {xs : List Int} (h : Kd.C (Kd.int .i64) W A n xs) (hn : 0 < n) : ∃ ad, A = some ad := by
 obtain ⟨_, _, h3⟩ := h
 obtain ⟨ad, e, _⟩ := h3 hn
 exact ⟨ad, e⟩
theorem rd_cell {W : World} {ad : Addr} {n : Nat} {xs : List Int} (h : Kd.C (Kd.int .i64) W (some ad) n xs) (i : Nat) (hi : i < xs.length) : W.cell? (ad.add i) = some (.int .i64 (rd xs (i : Int))) := by
 refine ints_cells h i _ ?_
 unfold cellsI rd
 rw [List.getElem?_map, List.getElem?_eq_getElem hi, Int.toNat_natCast, List.getD_eq_getElem?_getD, List.getElem?_eq_getElem hi]
 rfl

end Go.Proofs.Ythddeillkdediaa.H

/- A drawn region whose head only reads and whose last operations stand in one order: the cheap quiet walk for its head. -/
namespace Go.Proofs.Ythddeillkdediaa.H
open Go

section
variable {P : Program} {ops : Array Oper} {w : World}
theorem still_of_quiet {o : Oper} {a : Act} {K K' : Act → Prop} (hk : ∀ a, K a → K' a) (h : o.quiet P a (fun w' => w' = w) K) : o.still P a w K' := by
 obtain ⟨v, h1, h2⟩ := h
 have h3 := h1 w rfl
 unfold Oper.quietAt at h3
 unfold Oper.still
 generalize (execOp a.eval o).run P w = r at *
 cases r with
 | ok n w' =>
  cases n <;> simp only [Oper.quietUpon] at h3 <;> simp only [Oper.stillUpon]
  case value u => obtain ⟨e1, e2⟩ := h3; rw [e1, e2]; exact ⟨rfl, hk _ h2⟩
  case skip => obtain ⟨e1, e2⟩ := h3; rw [e1, ← e2]; exact ⟨rfl, hk _ h2⟩
  case enter f args => obtain ⟨e1, hc⟩ := h3; rw [e1]; exact ⟨rfl, v, hc, hk _ h2⟩
 | halt x w' => simp only [Oper.quietUpon] at h3
theorem wpStill_of_quiet {Q : Act → Prop} : ∀ (l : List Oper) (a : Act), wpQuiet P ops (fun w' => w' = w) Q l a → wpStill P ops w Q l a
 | [], _, h => h
 | o :: l, a, h => by
  unfold wpQuiet at h
  unfold wpStill
  split
  · rename_i hw; rw [if_pos hw] at h; exact still_of_quiet (fun a' h' => wpStill_of_quiet l a' h') h
  · rename_i hw; rw [if_neg hw] at h; exact wpStill_of_quiet l _ h
theorem region_quiet_tail {id : Nat} {Q : Exit → Act → World → Prop} {a : Act} {l : List Oper} (n : Nat) (hm : P.follows .mixedOrders = true) (hB : Region.lexTailB .any l.toArray n = true)
    (h : wpQuiet P l.toArray (fun w' => w' = w.drew) (fun a' => wpList P l.toArray Q (l.drop n) a' w.drew) (l.take n) a) : (Code.region id l.toArray true).wp P Q a w :=
 wp_region_still_tail n hm hB (wpStill_of_quiet _ _ h)
end
end Go.Proofs.Ythddeillkdediaa.H

/- The reference's choices, walked. -/
namespace Go.Proofs.Ythddeillkdediaa.H
open Go.RowKit Go.Proofs.YthddeillkdediaaW.PrintWords Go.Proofs.YthddeillkdediaaW.PrintLast Go.Proofs.YthddeillkdediaaW.PrintMore
open Go.Shelf Go.Proofs.Ythddeillkdediaa.QA
set_option linter.unusedVariables false
set_option linter.unusedSimpArgs false


/-- One row of one's own. -/
def R1 (w : World) (g n : Nat) (V : Nat → Value) : Prop := ∃ T : Array Value, T.size = n ∧ w.heap[g]? = some (.cells T 3 (0, 0)) ∧ ∀ x, x < n → T[x]? = some (V x)
theorem R1.below {w w' : World} {g n : Nat} {V : Nat → Value} (h : R1 w g n V) (hb : Below w.heap.size w w') : R1 w' g n V := by
 obtain ⟨T, h1, h2, h3⟩ := h
 exact ⟨T, h1, blk_below2 hb h2, h3⟩
theorem R1.cell {w : World} {g n : Nat} {V : Nat → Value} (h : R1 w g n V) (x : Nat) (hx : x < n) : w.cell? ⟨g, x, none⟩ = some (V x) ∧ w.frozen? ⟨g, x, none⟩ = false := by
 obtain ⟨T, h1, h2, h3⟩ := h
 exact ⟨(blk_cell h2 x).trans (h3 x hx), blk_frozen h2 x⟩
theorem R1.put {w : World} {g n : Nat} {V V' : Nat → Value} (h : R1 w g n V) (x : Nat) (hx : x < n) (v : Value) (hV : ∀ y, y < n → V' y = if y = x then v else V y) : R1 (w.setCell ⟨g, x, none⟩ v) g n V' := by
 obtain ⟨T, h1, h2, h3⟩ := h
 refine ⟨T.setIfInBounds x v, by simp [h1], blk_set h2 x v, fun y hy => ?_⟩
 rw [hV y hy]
 by_cases e : y = x
 · subst e
   rw [if_pos rfl]
   simp [h1, hx]
 · rw [if_neg e, Array.getElem?_setIfInBounds_ne (Ne.symm e)]
   exact h3 y hy
theorem R1.own {w : World} {g n base : Nat} {f : Nat → Int} (h : R1 w g n (fun x => .int .i64 (f x))) (hb : base ≤ g) (hn : n ≤ 1000000) : OwnI w base (.slice (some ⟨g, 0, none⟩) n n) ((List.range n).map f) := by
 obtain ⟨T, h1, h2, h3⟩ := h
 have hM : maxLen = 9223372036854775807 := rfl
 refine ⟨by simp [cellsI], .inr ⟨g, n, T, by simp, hb, h2, by simp, by omega, by simp [h1], ?_⟩⟩
 refine List.ext_getElem (by simp [cellsI, h1]) fun i hi1 hi2 => ?_
 have hi : i < n := by simpa [cellsI] using hi2
 rw [List.getElem_take, Array.getElem_toList]
 have h4 := h3 i hi
 rw [Array.getElem?_eq_getElem (by omega)] at h4
 rw [Option.some.inj h4]
 simp [cellsI]
theorem R1.made {w : World} {n : Nat} (f : Nat → Int) (hf : ∀ x, f x = 0) : R1 (w.alloc (.cells (madeCells #[.int .i64 0] n) 3)) w.heap.size n (fun x => .int .i64 (f x)) := by
 refine ⟨madeCells #[.int .i64 0] n, by simp [size_madeCells], blk_new w _, fun x hx => ?_⟩
 rw [← Array.getElem?_toList, toList_madeCells_one]
 simp only [hf x]
 simp [hx]
theorem meas_dn (k : Nat) (h : 0 < k) : (((k - 1 : Nat) : Int)).toNat < ((k : Int)).toNat := by omega
theorem meas_up (m k : Nat) (h : k < m) : m - (((k + 1 : Nat) : Int)).toNat < m - ((k : Int)).toNat := by omega
theorem below_set_g {w w' : World} {g b j : Nat} {v : Value} (hg : g = w.heap.size) (h : Below g w w') (hb : g ≤ b) : Below g w (w'.setCell ⟨b, j, none⟩ v) := by
 subst hg
 exact below_set h hb
theorem R1.congr {w : World} {g n : Nat} {V V' : Nat → Value} (h : R1 w g n V) (hV : ∀ y, y < n → V' y = V y) : R1 w g n V' := by
 obtain ⟨T, h1, h2, h3⟩ := h
 exact ⟨T, h1, h2, fun y hy => by rw [hV y hy]; exact h3 y hy⟩
theorem tv_chF (a b : List Int) (n R top x : Nat) (rs : List Int) (hn : n = a.length) (hrs : rs = ranksI (a ++ b)) (hR : R = rs.length) (ht : (top : Int) = restI a b) (hx : x ≤ top) : tv n rs R n (top - x) = chF a b (x : Int) := by
 unfold tv chF
 rw [hR, List.take_length, hrs, ← hn, ← ht, show ((top - x : Nat) : Int) = (top : Int) - (x : Int) by omega]
theorem wrap_dn (i : Nat) (h : 0 < i) (h2 : i ≤ 1000000) : wrap64 ((i : Int) - 1) = ((i - 1 : Nat) : Int) := by rw [w64' _ (by omega) (by omega)]; omega
section
set_option maxRecDepth 100000 in
set_option maxHeartbeats 8000000 in
theorem choices_walk (A : Option Addr) (c : Nat) (a : List Int) (B : Option Addr) (d : Nat) (b : List Int) (n m : Nat) (hn : n = a.length) (hm : m = b.length) (h1 : 1 ≤ n ∧ n ≤ 16) (h2 : 1 ≤ m ∧ m ≤ 16) (w : World) (hr : Kd.C (Kd.int .i64) w A n a) (hc : n ≤ c) (hr2 : Kd.C (Kd.int .i64) w B m b) (hc2 : m ≤ d) :
  Calls Try.prog 53 #[.slice A n c, .slice B m d] w fun e w' => ∃ v, e = .returned v ∧ OwnI w' w.heap.size v ((beatsU a b).map (chF a b)) ∧ Below w.heap.size w w' := by
 obtain ⟨ada, rfl⟩ := C_some hr (by omega)
 obtain ⟨adb, rfl⟩ := C_some hr2 (by omega)
 obtain ⟨l, hl⟩ : ∃ l, l = a ++ b := ⟨_, rfl⟩
 have hll : l.length = n + m := by rw [hl, List.length_append, hn, hm]
 obtain ⟨rs, hrs⟩ : ∃ rs, rs = ranksI l := ⟨_, rfl⟩
 have hrl : rs.length = n + m := by rw [hrs]; unfold ranksI; rw [List.length_map, hll]
 have hrin : ∀ r ∈ rs, 1 ≤ r ∧ r ≤ 1000 := fun r h => by
  rw [hrs] at h
  obtain ⟨x, _, rfl⟩ := List.mem_map.1 h
  have := rankI_in l x
  omega
 obtain ⟨top, htop⟩ : ∃ top : Nat, top = n * (n + 1) + 2 * n * m := ⟨_, rfl⟩
 have hti : (top : Int) = restI a b := by rw [htop]; unfold restI; rw [← hn, ← hm]; push_cast; rfl
 have htb : top ≤ 1000 := by
  have := (rest_in a b (by omega) (by omega)).2
  omega
 obtain ⟨q3, hq3⟩ : ∃ q3 : Nat, q3 = 2 * n * m := ⟨_, rfl⟩
 have hq3t : q3 ≤ top := by rw [hq3, htop]; exact Nat.le_add_left _ _
 have hq3i : ((q3 : Nat) : Int) = 2 * (n : Int) * (m : Int) := by rw [hq3]; push_cast; rfl
 obtain ⟨e1', e2', e3', e4', e5'⟩ := rest_wraps (n : Int) (m : Int) ⟨by omega, by omega⟩ ⟨by omega, by omega⟩
 have e1 : wrap64 ((n : Int) + 1) = ((n + 1 : Nat) : Int) := by rw [e1']; omega
 have e2 : wrap64 ((n : Int) * ((n + 1 : Nat) : Int)) = ((n * (n + 1) : Nat) : Int) := by push_cast; exact e2'
 have e3 : wrap64 (2 * (n : Int)) = ((2 * n : Nat) : Int) := by rw [e3']; omega
 have e4 : wrap64 (((2 * n : Nat) : Int) * (m : Int)) = (q3 : Int) := by rw [hq3i]; push_cast; exact e4'
 have e5 : wrap64 (((n * (n + 1) : Nat) : Int) + (q3 : Int)) = (top : Int) := by rw [hq3i, hti]; unfold restI; rw [← hn, ← hm]; push_cast; exact e5'
 clear e1' e2' e3' e4' e5'
 obtain ⟨N1, hN1⟩ : ∃ N1, N1 = n + 1 := ⟨_, rfl⟩
 obtain ⟨P1, hP1⟩ : ∃ P1, P1 = n * (n + 1) := ⟨_, rfl⟩
 obtain ⟨D2, hD2⟩ : ∃ D2, D2 = 2 * n := ⟨_, rfl⟩
 obtain ⟨M, hMM⟩ : ∃ M, M = top + 1 := ⟨_, rfl⟩
 obtain ⟨O, hO⟩ : ∃ O, O = q3 + 1 := ⟨_, rfl⟩
 rw [← hN1] at e1 e2
 rw [show n * N1 = P1 by rw [hN1, hP1]] at e2
 rw [← hP1] at e5
 rw [← hD2] at e3 e4
 have e6 : wrap64 ((top : Int) + 1) = (M : Int) := by rw [hMM]; exact wrap_up top (Nat.le_trans htb (by decide))
 have e7 : wrap64 ((q3 : Int) + 1) = (O : Int) := by rw [hO]; exact wrap_up q3 (Nat.le_trans hq3t (Nat.le_trans htb (by decide)))
 have HE := Aside0.mk (And.intro e1 (And.intro e2 (And.intro e3 (And.intro e4 (And.intro e5 (And.intro e6 e7))))))
 clear e1 e2 e3 e4 e5 e6 e7
 have HNB := Aside0.mk (show (1 ≤ n ∧ n ≤ 16) ∧ (1 ≤ m ∧ m ≤ 16) ∧ N1 = n + 1 ∧ top ≤ 1000 ∧ M = top + 1 ∧ q3 ≤ top ∧ O = q3 + 1 from ⟨h1, h2, hN1, htb, hMM, hq3t, hO⟩)
 have HI := Aside0.mk (And.intro hti hq3i)
 have HQ3 := Aside0.mk hq3
 have HL := Aside0.mk (And.intro hl (And.intro hll (And.intro hrs hrl)))
 have HRI := Aside0.mk hrin
 have HAB := Aside0.mk (And.intro hn hm)
 have HR := Aside0.mk (And.intro hr hr2)
 have HC := Aside0.mk (And.intro hc hc2)
 have HRK := Aside0.mk (rranks_f l 2000 (by omega) (by omega))
 have mk1 : ∀ W : World, (Instr.makeSlice 45 (.int .i64 (N1 : Int)) (.int .i64 (N1 : Int))).run Try.prog W = .ok (.slice (some ⟨W.heap.size, 0, none⟩) N1 N1) (W.alloc (.cells (madeCells #[.slice none 0 0] N1) 22)) := print_make_of 45 22 (.slice none 0 0) 24 (by kernel_rfl) info22 rfl (by decide) N1 (by omega)
 have mk2 : ∀ W : World, (Instr.makeSlice 22 (.int .i64 (M : Int)) (.int .i64 (M : Int))).run Try.prog W = .ok (.slice (some ⟨W.heap.size, 0, none⟩) M M) (W.alloc (.cells (madeCells #[.int .i64 0] M) 3)) := print_make 22 3 .i64 8 Try.underlying22 info3 (by decide) M (by omega)
 have mk3 : ∀ W : World, (Instr.makeSlice 22 (.int .i64 (O : Int)) (.int .i64 (O : Int))).run Try.prog W = .ok (.slice (some ⟨W.heap.size, 0, none⟩) O O) (W.alloc (.cells (madeCells #[.int .i64 0] O) 3)) := print_make 22 3 .i64 8 Try.underlying22 info3 (by decide) O (by omega)
 have HMK := Aside0.mk (And.intro mk1 (And.intro mk2 mk3))
 clear mk1 mk2 mk3
 clear hr hr2 hc hc2 hrin hl hll hrs hrl hti hq3i htop hq3 hn hm h1 h2 htb hq3t hP1 hD2 hN1 hMM hO
 go_enter Try.func53, Try.ntmps53
 go_wp2_with (at_builtin; refine Aside0.out ?_)
 refine ⟨?_⟩
 refine wpList_append_OwnI 22 und22 rfl _ _ rfl w.heap.size (.slice (some ⟨w.heap.size, 0, none⟩) 0 0) [] a rfl (OwnI.empty (Nat.le_refl _)) ada n c rfl HAB.out.1 (fun j u hu => by
  have := ints_cells HR.out.1 j u hu
  exact pw_cell_below (below_alloc (Below.refl _ _) _) this) (by have := HNB.out; simp; omega) (by simp) ?_
 intro v1 w1 hO1 hb1 hg1 ho1
 have hb1' : Below w.heap.size w w1 := (below_alloc (Below.refl _ _) _).trans hb1
 have HO1 := Aside0.mk hO1
 have HB1 := Aside0.mk hb1'
 clear hO1 hb1 hg1 ho1 hb1'
 go_wp2_with (at_builtin; refine Aside0.out ?_)
 refine ⟨?_⟩
 refine wpList_append_OwnI 22 und22 rfl _ _ rfl w.heap.size v1 a b rfl HO1.out adb m d rfl HAB.out.2 (fun j u hu => pw_cell_below HB1.out (ints_cells HR.out.2 j u hu)) (by have := HNB.out; have := HAB.out; omega) HB1.out.size ?_
 intro v2 w2 hO2 hb2 hg2 ho2
 have HB2 := Aside0.mk (HB1.out.trans hb2)
 rw [← HL.out.1] at hO2
 obtain ⟨Al, cl, rfl, hcl, hCl⟩ := Kd.R_reads hO2.R
 have HCl := Aside0.mk (And.intro hcl hCl)
 clear hO2 hb2 hg2 ho2 hcl hCl HO1 HB1
 go_wp2_with fail
 refine (pianolaref10_ranks.calls 2000 Al cl l (ranksI l) _ HCl.out.2 HCl.out.1 HRK.out).mono ?_
 rintro e w3 ⟨v3, rfl, hR, hb3⟩
 rw [← HL.out.2.2.1] at hR
 have HB3 := Aside0.mk (below_then HB2.out HB2.out.size hb3)
 obtain ⟨As, cs, rfl, hcs, hCs⟩ := Kd.R_reads hR
 obtain ⟨ads, rfl⟩ := C_some hCs (by have := HL.out.2.2.2; have := HNB.out; omega)
 obtain ⟨R, hRR⟩ : ∃ R, R = rs.length := ⟨_, rfl⟩
 have HRR := Aside0.mk hRR
 rw [← hRR] at hcs hCs ⊢
 have HCs := Aside0.mk (And.intro hcs hCs)
 clear hR hb3 hcs hCs HB2 HCl hRR
 have e1 := HE.out.1
 have e2 := HE.out.2.1
 have e3 := HE.out.2.2.1
 have e4 := HE.out.2.2.2.1
 have e5 := HE.out.2.2.2.2.1
 have mk1 := HMK.out.1
 have HST := Aside0.mk (Mt.start w3 w3.heap.size N1 M 22 3 (fun _ => 0) (fun _ _ => .bool false) (Nat.le_refl _))
 have HBS := Aside0.mk (below_alloc (Below.refl w3.heap.size w3) (.cells (madeCells #[.slice none 0 0] N1) 22))
 go_wp2
 rw [e5]
 clear e1 e2 e3 e4 e5 mk1
 obtain ⟨g, hg⟩ : ∃ g, g = w3.heap.size := ⟨_, rfl⟩
 rw [← hg] at HST HBS ⊢
 generalize w3.alloc (.cells (madeCells #[.slice none 0 0] N1) 22) = w4 at HST HBS ⊢
 have HG := Aside0.mk hg
 clear hg
 go_loopw [10] (fun s10 wr => ∃ (i : Nat) (B : Nat → Nat), s10 = .int .i64 i ∧ Aside0 (i ≤ N1) ∧ Aside0 (Mt wr g g N1 M 22 3 (fun r => r < i) B (fun _ _ => .int .i64 0)) ∧ Aside0 (Below g w3 wr)) (fun s10 _ => N1 - (intOf s10).toNat)
 case atStart => exact ⟨0, fun _ => 0, rfl, ⟨Nat.zero_le _⟩, ⟨HST.out.congr (fun r hr => ⟨fun h => by omega, fun h => h.elim⟩) (fun r k _ h => h.elim)⟩, HBS⟩
 case round =>
  clear HST HBS
  obtain ⟨i, B, rfl, HJ, HM, HB⟩ := hrel
  by_cases hj : i < N1
  · have n1 : i < N1 := hj
    have hd : decide ((i : Int) ≤ (n : Int)) = true := decide_eq_true (by have := HNB.out.2.2.1; omega)
    have hd2 : i ≤ n := by have := HNB.out.2.2.1; omega
    clear hj
    have hba := below_alloc (Below.refl wr.heap.size wr) (.cells (madeCells #[.int .i64 0] M) 3)
    have hnew := blk_new wr (.cells (madeCells #[.int .i64 0] M) 3)
    have HM1 := Aside0.mk (HM.out.below hba)
    have hgs : g ≤ wr.heap.size := Nat.le_of_lt HM.out.lt
    have HB1 := Aside0.mk (HB.out.alloc hgs (.cells (madeCells #[.int .i64 0] M) 3))
    have k0 := HM1.out.nil0 i n1 (by omega)
    have k1 := HM1.out.fz0 i
    have HNW := Aside0.mk hnew
    have HLG := Aside0.mk HM.out.lt
    have HLB := Aside0.mk (show ∀ r, r < N1 → r < i → B r ≠ wr.heap.size from fun r hr hd e => by
     obtain ⟨T, _, h2, _⟩ := HM.out.row r hr hd
     have := blk_lt h2
     omega)
    have HSZ := Aside0.mk hgs
    have e6 := HE.out.2.2.2.2.2.1
    have mk2 := HMK.out.2.1
    clear hba hnew HM HB hgs
    go_wp2
    have HM2 := Aside0.mk (HM1.out.new i wr.heap.size (.int .i64 0) n1 (by omega) HSZ.out (by have := HLG.out; omega) (fun r hr hd => HLB.out r hr hd) HNW.out)
    have HB2 := Aside0.mk (below_set_g (j := i) (v := .slice (some ⟨wr.heap.size, 0, none⟩) M M) HG.out HB1.out (Nat.le_refl _))
    clear k0 k1 HM1 HB1 HNW HLG HLB e6 mk2
    generalize ((wr.alloc (.cells (madeCells #[.int .i64 0] M) 3)).setCell ⟨g, i, none⟩ (.slice (some ⟨wr.heap.size, 0, none⟩) M M)) = w5 at HM2 HB2 ⊢
    refine ⟨⟨i + 1, fun r' => if r' = i then wr.heap.size else B r', (by first | exact congrArg _ (wrap_up i (by have := HNB.out.2.2.1; have := HNB.out.1; omega)) | rfl), ⟨n1⟩, ⟨HM2.out.congr (fun r hr => ⟨fun h => by omega, fun h => by omega⟩) (fun r k _ _ _ => by split <;> rfl)⟩, HB2⟩, ?_⟩
    first | (rw [wrap_up i (by have := HNB.out.2.2.1; have := HNB.out.1; omega)]; exact meas_up N1 i n1) | exact meas_up N1 i n1
  · obtain rfl : N1 = i := by have := HJ.out; omega
    have hd : decide ((N1 : Int) ≤ (n : Int)) = false := decide_eq_false (by have := HNB.out.2.2.1; omega)
    have hd2 : ¬ N1 ≤ n := by have := HNB.out.2.2.1; omega
    clear hj HJ
    have n1 : 0 < N1 := by have := HNB.out.2.2.1; omega
    have n2 : 0 < M := by have := HNB.out.2.2.2.2.1; omega
    have k0 := HM.out.cell0 0 n1 n1
    have k1 := HM.out.cell1 0 0 n1 n1 n2
    have k2 := HM.out.fz1 0 0 n1 n1
    go_wp2
    have HM2 := Aside0.mk ((HM.out.put 0 0 (.int .i64 1) n1 n1 n2).congr (D' := fun _ => True) (V' := fun k s => .int .i64 (tv n rs 0 k s)) (fun r hr => ⟨fun _ => hr, fun _ => trivial⟩) (fun r k _ _ _ => by
     simp only [tv_zero]
     by_cases h : r = 0 ∧ k = 0
     · rw [if_pos h, if_pos h]
     · rw [if_neg h, if_neg h]))
    have HB2 := Aside0.mk (below_set_g (b := B 0) (j := 0) (v := .int .i64 1) HG.out HB.out (HM.out.rb 0 n1 n1).1)
    clear k0 k1 k2 HM HB hd hd2
    generalize wr.setCell ⟨B 0, 0, none⟩ (.int .i64 1) = w5 at HM2 HB2 ⊢
    have HN12 := Aside0.mk (And.intro n1 n2)
    clear n1 n2
    go_loopw [11] (fun s11 wr => ∃ (i : Nat), s11 = .int .i64 i ∧ Aside0 (i ≤ R) ∧ Aside0 (Mt wr g g N1 M 22 3 (fun _ => True) B (fun k s => .int .i64 (tv n rs i k s))) ∧ Aside0 (Below g w3 wr)) (fun s11 _ => R - (intOf s11).toNat)
    case atStart => exact ⟨0, rfl, ⟨Nat.zero_le _⟩, HM2, HB2⟩
    case round =>
     clear HM2 HB2 w5
     obtain ⟨i, rfl, HJ, HM, HB⟩ := hrel
     by_cases hj : i < R
     · have n1 : i < R := hj
       have hd : decide ((i : Int) < (R : Int)) = true := decide_eq_true (by omega)
       clear hj
       go_wp2
       clear hd
       have hir : i < rs.length := by rw [← HRR.out]; exact n1
       obtain ⟨r, hrd⟩ : ∃ r : Nat, rd rs (i : Int) = (r : Int) := ⟨(rd rs (i : Int)).toNat, by have := HRI.out _ (rd_mem rs hir); omega⟩
       have hr1 : 1 ≤ r ∧ r ≤ 1000 := by have := HRI.out _ (rd_mem rs hir); omega
       have HRD := Aside0.mk hrd
       have HR1 := Aside0.mk hr1
       have HIR := Aside0.mk hir
       have HRZ := Aside0.mk (show ∀ r ∈ rs, 0 ≤ r ∧ r ≤ 1000 from fun r h => ⟨by have := (HRI.out r h).1; omega, (HRI.out r h).2⟩)
       clear hrd hr1 hir
       go_loopw [12] (fun s12 wi => ∃ k : Nat, s12 = .int .i64 k ∧ Aside0 (k ≤ n) ∧ Aside0 (Mt wi g g N1 M 22 3 (fun _ => True) B (fun k' s' => .int .i64 (if k < k' then tv n rs (i + 1) k' s' else tv n rs i k' s'))) ∧ Aside0 (Below g w3 wi)) (fun s12 _ => (intOf s12).toNat)
       case atStart => exact ⟨n, rfl, ⟨Nat.le_refl _⟩, ⟨HM.out.congr (fun _ _ => Iff.rfl) (fun k' s' hk' _ _ => by have := HNB.out.2.2.1; rw [if_neg (by omega)])⟩, HB⟩
       case round =>
        clear HM HB
        obtain ⟨k, rfl, HK, HM, HB⟩ := hrel
        by_cases hj : 0 < k
        · have n2 : 0 < k := hj
          have hd : decide ((k : Int) > 0) = true := decide_eq_true (by omega)
          have hd' : decide ((0 : Int) < (k : Int)) = true := decide_eq_true (by omega)
          clear hj
          go_wp2
          clear hd hd'
          go_loopw [13] (fun s13 wj => ∃ s : Nat, s13 = .int .i64 s ∧ Aside0 (s ≤ top) ∧ Aside0 (Mt wj g g N1 M 22 3 (fun _ => True) B (fun k' s' => .int .i64 (stv n rs i k s k' s'))) ∧ Aside0 (Below g w3 wj)) (fun s13 _ => (intOf s13).toNat)
          case atStart => exact ⟨top, rfl, ⟨Nat.le_refl _⟩, ⟨HM.out.congr (fun _ _ => Iff.rfl) (fun k' s' hk' _ hs' => by rw [stv_row n rs i k top k' s' (by have := HNB.out.2.2.2.2.1; omega)])⟩, HB⟩
          case round =>
           clear HM HB
           obtain ⟨s, rfl, HS, HM, HB⟩ := hrel
           have HCR := Aside0.mk (rd_cell (by have := HCs.out.2; rw [HRR.out] at this; rw [HG.out] at HB; exact Kd.C_below this HB.out) i HIR.out)
           by_cases hj : r ≤ s
           · have hd : decide ((r : Int) ≤ (s : Int)) = true := decide_eq_true (by omega)
             have hd' : decide ((s : Int) ≥ (r : Int)) = true := decide_eq_true (by omega)
             have n3 : s < M := by have := HNB.out.2.2.2.2.1; have := HS.out; omega
             have n4 : k < N1 := by have := HNB.out.2.2.1; have := HK.out; omega
             obtain ⟨k1, hk1⟩ : ∃ k1, k1 = k - 1 := ⟨_, rfl⟩
             obtain ⟨s1, hs1⟩ : ∃ s1, s1 = s - r := ⟨_, rfl⟩
             have n5 : s1 < M := by omega
             have n6 : k1 < N1 := by omega
             have e1 : wrap64 ((k : Int) - 1) = (k1 : Int) := by rw [hk1]; exact wrap_dn k n2 (by have := HNB.out.1; have := HK.out; omega)
             have e2 : wrap64 ((s : Int) - (r : Int)) = (s1 : Int) := by rw [hs1, w64' _ (by omega) (by have := HS.out; have := HNB.out; omega)]; omega
             have v1 := tv_in n rs HRZ.out i k s (Nat.le_of_lt HIR.out) (by have := HL.out.2.2.2; have := HNB.out; omega)
             have v2 := tv_in n rs HRZ.out i k1 s1 (Nat.le_of_lt HIR.out) (by have := HL.out.2.2.2; have := HNB.out; omega)
             have hsum := tv_succ n rs HRZ.out i k s r HIR.out HK.out HRD.out
             rw [if_pos ⟨n2, hj⟩, ← hk1, ← hs1] at hsum
             have f0 := HM.out.cell0 k n4 trivial
             have f1 := HM.out.cell1 k s n4 trivial n3
             have f2 := HM.out.cell0 k1 n6 trivial
             have f3 := HM.out.cell1 k1 s1 n6 trivial n5
             rw [show stv n rs i k s k s = tv n rs i k s by unfold stv; rw [if_neg (by omega)]] at f1
             rw [show stv n rs i k s k1 s1 = tv n rs i k1 s1 by unfold stv; rw [if_neg (by omega)]] at f3
             have HKS := Aside0.mk (And.intro hk1 hs1)
             clear hk1 hs1
             generalize tv n rs i k s = x1 at v1 hsum f1
             generalize tv n rs i k1 s1 = x2 at v2 hsum f3
             have e3 : wrap64 (x1 + x2) = x1 + x2 := w64' _ (by omega) (by omega)
             have HSUM := Aside0.mk hsum
             have HF := Aside0.mk (And.intro f0 (And.intro f1 (And.intro f2 f3)))
             clear v1 v2 hsum f0 f1 f2 f3
             have c0 := HCR.out
             rw [HRD.out] at c0
             have HC0 := Aside0.mk c0
             go_upto_region 19 with fail
             have HMD := Aside0.mk (HM.out.below (below_drew (Below.refl wr.heap.size wr)))
             have HBD := Aside0.mk (below_drew1 HB.out)
             have h0 : wr.drew.cell? ⟨g, k, none⟩ = some (.slice (some ⟨B k, 0, none⟩) M M) := HF.out.1
             have h1 : wr.drew.cell? ⟨B k, s, none⟩ = some (.int .i64 x1) := HF.out.2.1
             have h2 : wr.drew.cell? ⟨g, k1, none⟩ = some (.slice (some ⟨B k1, 0, none⟩) M M) := HF.out.2.2.1
             have h3 : wr.drew.cell? ⟨B k1, s1, none⟩ = some (.int .i64 x2) := HF.out.2.2.2
             have h4 : wr.drew.cell? (ads.add i) = some (.int .i64 (r : Int)) := HC0.out
             have hfz : wr.drew.frozen? ⟨B k, s, none⟩ = false := HMD.out.fz1 k s n4 trivial
             clear c0 hd hd'
             try simp only [List.append_eq, List.cons_append, List.nil_append]
             refine region_quiet_tail 22 (by kernel_rfl) (by kernel_rfl) ?_
             generalize wr.drew = wD at HMD HBD hfz h0 h1 h2 h3 h4 ⊢
             simp only [List.take_succ_cons, List.take_zero, List.drop_succ_cons, List.drop_zero]
             iterate 22 go_big_quiet_step (fail)
             refine wpQuiet_nil ?_
             clear h0 h2 h3 h4
             go_wp2
             have HME := Aside0.mk (HMD.out.put k s (.int .i64 (x1 + x2)) n4 trivial n3)
             have HBE := Aside0.mk (below_set_g (b := B k) (j := s) (v := .int .i64 (x1 + x2)) HG.out HBD.out (HMD.out.rb k n4 trivial).1)
             clear hfz h1 HMD HBD
             generalize wD.setCell ⟨B k, s, none⟩ (.int .i64 (x1 + x2)) = wE at HME HBE ⊢
             refine ⟨⟨s - 1, congrArg _ (wrap_dn s (by have := HR1.out; omega) (by have := HS.out; have := HNB.out; omega)), ⟨by have := HS.out; omega⟩, ⟨HME.out.congr (fun _ _ => Iff.rfl) (fun k' s' hk' _ hs' => ?_)⟩, HBE⟩, ?_⟩
             · unfold stv
               by_cases e : k' = k ∧ s' = s
               · rw [if_pos e, e.1, e.2, if_pos (.inr ⟨rfl, by have := HR1.out; omega⟩), HSUM.out]
               · rw [if_neg e]
                 have hiff : (k < k' ∨ k' = k ∧ s - 1 < s') ↔ (k < k' ∨ k' = k ∧ s < s') := by have := HR1.out; omega
                 simp only [hiff]
             · rw [wrap_dn s (by have := HR1.out; omega) (by have := HS.out; have := HNB.out; omega)]; exact meas_dn s (by have := HR1.out; omega)
           · have hd : decide ((r : Int) ≤ (s : Int)) = false := decide_eq_false (by omega)
             have hd' : decide ((s : Int) ≥ (r : Int)) = false := decide_eq_false (by omega)
             have hj' := Aside0.mk hj
             have c0 := HCR.out
             rw [HRD.out] at c0
             go_wp2
             refine ⟨⟨k - 1, congrArg _ (wrap_dn k n2 (by have := HNB.out.1; have := HK.out; omega)), ⟨by have := HK.out; omega⟩, ⟨HM.out.congr (fun _ _ => Iff.rfl) (fun k' s' hk' _ hs' => ?_)⟩, HB⟩, ?_⟩
             · rw [stv_out n rs HRZ.out i k s k' s' r HIR.out HK.out n2 HRD.out (by have := hj'.out; omega) (by have := HNB.out.2.2.1; omega)]
             · rw [wrap_dn k n2 (by have := HNB.out.1; have := HK.out; omega)]; exact meas_dn k n2
        · have hk0 : k = 0 := by omega
          have hd : decide ((k : Int) > 0) = false := decide_eq_false (by omega)
          have hd' : decide ((0 : Int) < (k : Int)) = false := decide_eq_false (by omega)
          have HK0 := Aside0.mk hk0
          clear hk0
          go_wp2
          refine ⟨⟨i + 1, congrArg _ (wrap_up i (by have := HNB.out; have := HL.out.2.2.2; have := HRR.out; omega)), ⟨n1⟩, ⟨HM.out.congr (fun _ _ => Iff.rfl) (fun k' s' hk' _ hs' => by rw [HK0.out, row_zero n rs HRZ.out i k' s' r HIR.out HRD.out])⟩, HB⟩, ?_⟩
          rw [wrap_up i (by have := HNB.out; have := HL.out.2.2.2; have := HRR.out; omega)]; exact meas_up R i n1
     · obtain rfl : R = i := by have := HJ.out; omega
       obtain ⟨wO, hwO⟩ : ∃ W : World, W = wr := ⟨_, rfl⟩
       subst hwO
       have hd : decide ((R : Int) < (R : Int)) = false := decide_eq_false (by omega)
       clear hj HJ
       have e3 := HE.out.2.2.1
       have e4 := HE.out.2.2.2.1
       have e7 := HE.out.2.2.2.2.2.2
       have mk3 := HMK.out.2.2
       have HBX := Aside0.mk (below_alloc (Below.refl wO.heap.size wO) (.cells (madeCells #[.int .i64 0] O) 3))
       have HRX := Aside0.mk (R1.made (w := wO) (n := O) (fun _ => 0) (fun _ => rfl))
       go_wp2
       clear hd e7 mk3
       generalize wO.alloc (.cells (madeCells #[.int .i64 0] O) 3) = wx at HBX HRX ⊢
       go_loopw [15] (fun s15 wy => ∃ x : Nat, s15 = .int .i64 x ∧ Aside0 (x ≤ O) ∧ Aside0 (R1 wy wO.heap.size O (fun y => .int .i64 (if y < x then chF a b (y : Int) else 0))) ∧ Aside0 (Below wO.heap.size wO wy)) (fun s15 _ => O - (intOf s15).toNat)
       case atStart => exact ⟨0, rfl, ⟨Nat.zero_le _⟩, ⟨HRX.out.congr (fun y _ => by rw [if_neg (Nat.not_lt_zero _)])⟩, HBX⟩
       case round =>
        clear HRX HBX wx
        obtain ⟨x, rfl, HX, HRX, HBX⟩ := hrel
        by_cases hj : x < O
        · have n1 : x < O := hj
          have hd : decide ((x : Int) ≤ (q3 : Int)) = true := decide_eq_true (by have := HNB.out.2.2.2.2.2.2; omega)
          have hd2 : x ≤ q3 := by have := HNB.out.2.2.2.2.2.2; omega
          clear hj
          have hxt : x ≤ top := by have := HNB.out; omega
          obtain ⟨y, hy⟩ : ∃ y, y = top - x := ⟨_, rfl⟩
          have e8 : wrap64 ((top : Int) - (x : Int)) = (y : Int) := by rw [w64' _ (by omega) (by have := HNB.out.2.2.2.1; omega)]; omega
          have n2 : n < N1 := by have := HNB.out.2.2.1; omega
          have n3 : y < M := by have := HNB.out.2.2.2.2.1; omega
          have HM2 := Aside0.mk (HM.out.below HBX.out)
          have k0 := HM2.out.cell0 n n2 trivial
          have k1 := HM2.out.cell1 n y n2 trivial n3
          rw [hy, tv_chF a b n R top x rs HAB.out.1 (by rw [HL.out.2.2.1, HL.out.1]) HRR.out HI.out.1 hxt, ← hy] at k1
          have k2 := (HRX.out.cell x n1).1
          have k3 := (HRX.out.cell x n1).2
          rw [if_neg (Nat.lt_irrefl x)] at k2
          have HZ := Aside0.mk (rfl : chF a b (x : Int) = chF a b (x : Int))
          obtain ⟨v, hv⟩ : ∃ v, v = chF a b (x : Int) := ⟨_, rfl⟩
          rw [← hv] at k1
          have HV := Aside0.mk hv
          clear hv hxt hy HZ
          go_wp2
          have HRY := Aside0.mk (HRX.out.put (V' := fun y => .int .i64 (if y < x + 1 then chF a b (y : Int) else 0)) x n1 (.int .i64 v) (fun y hy => by
           by_cases e : y = x
           · rw [if_pos e, e, if_pos (by omega), HV.out]
           · rw [if_neg e]
             by_cases e2 : y < x
             · rw [if_pos e2, if_pos (by omega)]
             · rw [if_neg e2, if_neg (by omega)]))
          have HBY := Aside0.mk (below_set (g := wO.heap.size) (j := x) (v := .int .i64 v) HBX.out (Nat.le_refl _))
          clear k2 k3 k0 k1
          generalize wr.setCell ⟨wO.heap.size, x, none⟩ (.int .i64 v) = wz at HRY HBY ⊢
          refine ⟨⟨x + 1, congrArg _ (wrap_up x (by have := HNB.out; omega)), ⟨n1⟩, HRY, HBY⟩, ?_⟩
          rw [wrap_up x (by have := HNB.out; omega)]; exact meas_up O x n1
        · obtain rfl : O = x := by have := HX.out; omega
          have hd : decide ((O : Int) ≤ (q3 : Int)) = false := decide_eq_false (by have := HNB.out.2.2.2.2.2.2; omega)
          have hd2 : ¬ O ≤ q3 := by have := HNB.out.2.2.2.2.2.2; omega
          clear hj
          go_wp2
          go_ret
          have hgl : w.heap.size ≤ wO.heap.size := Nat.le_trans HB3.out.size (by rw [← HG.out]; exact Nat.le_of_lt HM.out.lt)
          refine ⟨_, rfl, ?_, ?_⟩
          · have h := (HRX.out.congr (V' := fun y => .int .i64 (chF a b (y : Int))) (fun y hy => by rw [if_pos hy])).own hgl (by have := HNB.out; omega)
            rw [show (beatsU a b).map (chF a b) = (List.range O).map (fun y : Nat => chF a b (y : Int)) by
             unfold beatsU
             rw [List.map_map, ← HAB.out.1, ← HAB.out.2, ← HQ3.out, ← HNB.out.2.2.2.2.2.2]
             rfl]
            exact h
          · have hb := HB.out
            rw [HG.out] at hb
            exact below_then HB3.out HB3.out.size (hb.trans (HBX.out.mono hb.size))
end
/-- The reference's choices, for valid samples. -/
def pianolaref10_choices.f (a b : List Int) : Option (List Int) := if (1 ≤ a.length ∧ a.length ≤ 16) ∧ (1 ≤ b.length ∧ b.length ≤ 16) then some ((beatsU a b).map (chF a b)) else none
theorem pianolaref10_choices.calls (A : Option Addr) (c : Nat) (a : List Int) (B : Option Addr) (d : Nat) (b : List Int) (r : List Int) (w : World) (hr : Kd.C (Kd.int .i64) w A a.length a) (hc : a.length ≤ c) (hr2 : Kd.C (Kd.int .i64) w B b.length b) (hc2 : b.length ≤ d) (h : pianolaref10_choices.f a b = some r) :
  Calls Try.prog 53 #[.slice A a.length c, .slice B b.length d] w fun e w' => ∃ v, e = .returned v ∧ Kd.R (Kd.int .i64) 3 w' w.heap.size (fun _ => True) v r ∧ Below w.heap.size w w' := by
 unfold pianolaref10_choices.f at h
 by_cases hl : (1 ≤ a.length ∧ a.length ≤ 16) ∧ (1 ≤ b.length ∧ b.length ≤ 16)
 · rw [if_pos hl] at h
   obtain rfl := Option.some.inj h
   exact (choices_walk A c a B d b _ _ rfl rfl hl.1 hl.2 w hr hc hr2 hc2).mono fun e w' ⟨v, he, hv, hb⟩ => ⟨v, he, hv.R, hb⟩
 · rw [if_neg hl] at h
   cases h

end Go.Proofs.Ythddeillkdediaa.H
