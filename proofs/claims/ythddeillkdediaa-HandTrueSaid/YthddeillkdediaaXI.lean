/- Texts MT, MV, RT, PS, HK of this chapter, one behind the other. -/
import Derived.BigQuiet
import Derived.Carry
import Derived.LoopIn
import Derived.LoopNIn
import Derived.OwnWalkIn
import Derived.StillTailTactics
import Derived.TacticsInMore
import Derived.Test.YthddeillkdediaaXF
import Derived.Test.YthddeillkdediaaXH

/- Tables of rows of one's own. -/
namespace Go.Proofs.Ythddeillkdediaa.H
open Go.RowKit Go.Proofs.YthddeillkdediaaW.PrintWords Go.Proofs.YthddeillkdediaaW.PrintLast Go.Proofs.YthddeillkdediaaW.PrintMore
open Go.Shelf Go.Proofs.Ythddeillkdediaa.QA
set_option linter.unusedVariables false
set_option linter.unusedSimpArgs false

/-- A table of rows of one's own: which rows are there, where they lie, and what is in them. -/
structure Mt (w : World) (base g n m : Nat) (t1 t2 : TypeId) (D : Nat → Prop) (B : Nat → Nat) (V : Nat → Nat → Value) : Prop where
 top : ∃ T : Array Value, T.size = n ∧ w.heap[g]? = some (.cells T t1 (0, 0)) ∧ ∀ r, r < n → (D r → T[r]? = some (.slice (some ⟨B r, 0, none⟩) m m)) ∧ (¬ D r → T[r]? = some (.slice none 0 0))
 row : ∀ r, r < n → D r → ∃ T : Array Value, T.size = m ∧ w.heap[B r]? = some (.cells T t2 (0, 0)) ∧ ∀ k, k < m → T[k]? = some (V r k)
 gb : base ≤ g
 rb : ∀ r, r < n → D r → base ≤ B r ∧ B r ≠ g
 inj : ∀ r r', r < n → r' < n → D r → D r' → B r = B r' → r = r'
variable {w : World} {base g n m : Nat} {t1 t2 : TypeId} {D : Nat → Prop} {B : Nat → Nat} {V : Nat → Nat → Value}
theorem Mt.lt (h : Mt w base g n m t1 t2 D B V) : g < w.heap.size := by
 obtain ⟨T, _, h1, _⟩ := h.top
 exact blk_lt h1
theorem Mt.below {w' : World} (h : Mt w base g n m t1 t2 D B V) (hb : Below w.heap.size w w') : Mt w' base g n m t1 t2 D B V := by
 obtain ⟨⟨T, h1, h2, h3⟩, h4, h5, h6, h7⟩ := h
 refine ⟨⟨T, h1, blk_below h2 hb, h3⟩, fun r hr hd => ?_, h5, h6, h7⟩
 obtain ⟨T', e1, e2, e3⟩ := h4 r hr hd
 exact ⟨T', e1, blk_below e2 hb, e3⟩
theorem Mt.congr {D' : Nat → Prop} {V' : Nat → Nat → Value} (h : Mt w base g n m t1 t2 D B V) (hD : ∀ r, r < n → (D' r ↔ D r)) (hV : ∀ r k, r < n → D r → k < m → V' r k = V r k) : Mt w base g n m t1 t2 D' B V' := by
 obtain ⟨⟨T, h1, h2, h3⟩, h4, h5, h6, h7⟩ := h
 refine ⟨⟨T, h1, h2, fun r hr => ⟨fun hd => (h3 r hr).1 ((hD r hr).1 hd), fun hd => (h3 r hr).2 (fun e => hd ((hD r hr).2 e))⟩⟩, fun r hr hd => ?_, h5, fun r hr hd => h6 r hr ((hD r hr).1 hd), fun r r' hr hr' hd hd' => h7 r r' hr hr' ((hD r hr).1 hd) ((hD r' hr').1 hd')⟩
 obtain ⟨T', e1, e2, e3⟩ := h4 r hr ((hD r hr).1 hd)
 exact ⟨T', e1, e2, fun k hk => by rw [hV r k hr ((hD r hr).1 hd) hk]; exact e3 k hk⟩
/-- A store into a row. -/
theorem Mt.put (h : Mt w base g n m t1 t2 D B V) (r k : Nat) (v : Value) (hr : r < n) (hd : D r) (hk : k < m) : Mt (w.setCell ⟨B r, k, none⟩ v) base g n m t1 t2 D B (fun r' k' => if r' = r ∧ k' = k then v else V r' k') := by
 obtain ⟨⟨T, h1, h2, h3⟩, h4, h5, h6, h7⟩ := h
 refine ⟨⟨T, h1, blk_far h2 (fun e => (h6 r hr hd).2 e.symm) v, h3⟩, fun r' hr' hd' => ?_, h5, h6, h7⟩
 obtain ⟨T', e1, e2, e3⟩ := h4 r' hr' hd'
 by_cases e : r' = r
 · subst e
   refine ⟨T'.setIfInBounds k v, by simp [e1], blk_set e2 k v, fun k' hk' => ?_⟩
   by_cases ek : k' = k
   · subst ek
     simp [e1, hk]
   · simp only [ek, and_false, if_false]
     rw [Array.getElem?_setIfInBounds_ne (Ne.symm ek)]
     exact e3 k' hk'
 · refine ⟨T', e1, blk_far e2 (fun e' => e (h7 _ _ hr' hr hd' hd e')) v, fun k' hk' => ?_⟩
   simp only [e, false_and, if_false]
   exact e3 k' hk'
/-- A table without rows. -/
theorem Mt.start (w : World) (base n m : Nat) (t1 t2 : TypeId) (B : Nat → Nat) (V : Nat → Nat → Value) (hb : base ≤ w.heap.size) : Mt (w.alloc (.cells (madeCells #[.slice none 0 0] n) t1)) base w.heap.size n m t1 t2 (fun _ => False) B V := by
 refine ⟨⟨madeCells #[.slice none 0 0] n, by simp [size_madeCells], blk_new w _, fun r hr => ⟨fun h => h.elim, fun _ => ?_⟩⟩, fun _ _ h => h.elim, hb, fun _ _ h => h.elim, fun _ _ _ _ h => h.elim⟩
 rw [← Array.getElem?_toList, toList_madeCells_one]
 simp [hr]


end Go.Proofs.Ythddeillkdediaa.H

/- Own rows with room. -/
namespace Go.Proofs.Ythddeillkdediaa.H
open Go.RowKit Go.Proofs.YthddeillkdediaaW.PrintWords Go.Proofs.YthddeillkdediaaW.PrintLast Go.Proofs.YthddeillkdediaaW.PrintMore
open Go.Shelf Go.Proofs.Ythddeillkdediaa.QA
set_option linter.unusedVariables false
set_option linter.unusedSimpArgs false


/-- An own row with room. -/
structure R2 (w : World) (g cap : Nat) (xs : List Int) : Prop where
 le : xs.length ≤ cap ∧ xs.length ≤ 1000000
 blk : ∃ T : Array Value, T.size = cap ∧ w.heap[g]? = some (.cells T 3 (0, 0)) ∧ ∀ i : Nat, i < xs.length → T[i]? = some (.int .i64 (rd xs (i : Int)))
variable {w w' : World} {g cap : Nat} {xs : List Int}
theorem R2.lt (h : R2 w g cap xs) : g < w.heap.size := by
 obtain ⟨T, _, h2, _⟩ := h.blk
 exact blk_lt h2
theorem R2.below (h : R2 w g cap xs) (hb : Below w.heap.size w w') : R2 w' g cap xs := by
 obtain ⟨T, h1, h2, h3⟩ := h.blk
 exact ⟨h.le, T, h1, blk_below2 hb h2, h3⟩
theorem R2.cell (h : R2 w g cap xs) (i : Nat) (hi : i < xs.length) : w.cell? ⟨g, i, none⟩ = some (.int .i64 (rd xs (i : Int))) ∧ w.frozen? ⟨g, i, none⟩ = false := by
 obtain ⟨T, h1, h2, h3⟩ := h.blk
 exact ⟨(blk_cell h2 i).trans (h3 i hi), blk_frozen h2 i⟩
theorem rd_setN (l : List Int) (i : Nat) (v : Int) (j : Nat) (hj : j < l.length) : rd (l.set i v) (j : Int) = if i = j then v else rd l (j : Int) := by
 unfold rd
 rw [Int.toNat_natCast, List.getD_eq_getElem?_getD, List.getD_eq_getElem?_getD, List.getElem?_set]
 by_cases h : i = j
 · rw [if_pos h, if_pos h, if_pos (by omega)]
   rfl
 · rw [if_neg h, if_neg h]
theorem R2.put (h : R2 w g cap xs) (i : Nat) (hi : i < xs.length) (x : Int) : R2 (w.setCell ⟨g, i, none⟩ (.int .i64 x)) g cap (xs.set i x) := by
 obtain ⟨T, h1, h2, h3⟩ := h.blk
 refine ⟨by rw [List.length_set]; exact h.le, T.setIfInBounds i (.int .i64 x), by simp [h1], blk_set h2 i _, fun j hj => ?_⟩
 rw [List.length_set] at hj
 rw [rd_setN xs i x j hj]
 by_cases e : i = j
 · subst e
   rw [if_pos rfl]
   have hlt : i < T.size := by have := h.le; omega
   simp [hlt]
 · rw [if_neg e, Array.getElem?_setIfInBounds_ne e]
   exact h3 j hj
theorem R2.C (h : R2 w g cap xs) : Kd.C (Kd.int .i64) w (some ⟨g, 0, none⟩) xs.length xs := by
 refine Kd.C_of_reads (d := 0) ⟨rfl, by have := h.le; omega, fun _ => ⟨_, rfl, fun j hj => ?_⟩⟩
 have := (h.cell j hj).1
 rw [add_plain]
 first | rw [this] | (rw [Nat.zero_add]; rw [this])
 unfold rd
 rw [Int.toNat_natCast]
theorem R2.of_own {base : Nat} {v : Value} (h : OwnI w base v xs) (hx : xs ≠ []) (hl : xs.length ≤ 1000000) : ∃ g cap, v = .slice (some ⟨g, 0, none⟩) xs.length cap ∧ base ≤ g ∧ R2 w g cap xs ∧ v.ownBlock = some g := by
 have hl0 : 0 < xs.length := List.length_pos_iff.2 hx
 rcases h.2 with ⟨h3, h4⟩ | ⟨g, cap, cur, rfl, h4, h5, h6, h7, h8, h9⟩
 · omega
 · refine ⟨g, cap, rfl, h4, ⟨⟨by omega, hl⟩, cur, by omega, h5, fun i hi => ?_⟩, rfl⟩
   have e : (cellsI xs)[i]? = some (.int .i64 (rd xs (i : Int))) := by
    unfold cellsI rd
    rw [List.getElem?_map, List.getElem?_eq_getElem hi, Int.toNat_natCast, List.getD_eq_getElem?_getD, List.getElem?_eq_getElem hi]
    rfl
   rw [← h9, List.getElem?_take_of_lt (by omega), Array.getElem?_toList] at e
   exact e

end Go.Proofs.Ythddeillkdediaa.H

/- Two operations may come up; appends in a drawn region. -/
namespace Go.Proofs.Ythddeillkdediaa.H
open Go.RowKit Go.Proofs.YthddeillkdediaaW.PrintWords Go.Proofs.YthddeillkdediaaW.PrintLast Go.Proofs.YthddeillkdediaaW.PrintMore
open Go.Shelf Go.Proofs.Ythddeillkdediaa.QA
set_option linter.unusedVariables false
set_option linter.unusedSimpArgs false


section
variable {P : Program} {ops : Array Oper} {Q : Exit → Act → World → Prop} {md : Region.Mode} {S : World → Prop} {ds : List Nat}
/-- Two operations may come up next. -/
theorem two_ {i j : Nat} {Ni Nj : Option Tmp} {oi oj : Oper} {fuel : Nat} {l : Array Bool} {a : Act} {w : World} (li lj : Array Bool) (hi : ops[i]? = some oi) (hj : ops[j]? = some oj) (hNi : oi.dst = Ni) (hNj : oj.dst = Nj)
    {T : Bool × List (List Nat × List Nat)} (hT : rtab md ops = T) (hc : (readyT T.2 l.toList == [i, j] && (l.toList.set i true == li.toList && l.toList.set j true == lj.toList)) = true) (hdi : i ∉ ds) (hdj : j ∉ ds)
    (h1 : ∀ K : Act → World → Prop, Shut (∀ a' w', S w' → (S w' → wpAnyLast P md ops Q S ds fuel li a' w') → K a' w') → if Region.wanted oi (yielded ops a.tmps) = true then Oper.wp P oi a w K Q else K (a.put Ni undef) w)
    (h2 : ∀ K : Act → World → Prop, Shut (∀ a' w', S w' → (S w' → wpAnyLast P md ops Q S ds fuel lj a' w') → K a' w') → if Region.wanted oj (yielded ops a.tmps) = true then Oper.wp P oj a w K Q else K (a.put Nj undef) w) :
    wpAnyLast P md ops Q S ds (fuel + 1) l a w := by
  subst hNi
  subst hNj
  simp only [Bool.and_eq_true] at hc
  obtain ⟨h3, h4, h5⟩ := hc
  subst hT
  have e3 : Region.ready md ops l = [i, j] := by
    have := ready_eq (md := md) (ops := ops) (l := l)
    rw [this]
    exact beq_iff_eq.1 h3
  have e4 := beq_iff_eq.1 (set_of h4)
  have e5 := beq_iff_eq.1 (set_of h5)
  subst e4
  subst e5
  exact wpAnyLast_ready e3 (by simp) (AllReadyL.cons hi hdi (fun K hK => h1 K hK) (AllReadyL.cons hj hdj (fun K hK => h2 K hK) AllReadyL.nil))
end
theorem step_append_OwnI {ops : Array Oper} {o : Oper} {a : Act} {K : Act → World → Prop} {Q : Exit → Act → World → Prop} {W : World} (hw : Region.wanted o (yielded ops a.tmps) = true) (t : TypeId) (ht : Try.prog.underlying t = some (.slice 3)) (s x : Operand)
  (ho : o.op = .call { callee := .builtin .append, args := #[s, x], argTypes := #[t, t] }) (base : Nat) (v : Value) (xs ys : List Int) (hs : a.eval s = v) (hv : OwnI W base v xs) (ad : Addr) (m c : Nat) (hx : a.eval x = .slice (some ad) m c) (hm : m = ys.length)
  (hc : ∀ j u, (cellsI ys)[j]? = some u → W.cell? (ad.add j) = some u) (hl : xs.length + m ≤ 1000000) (hb : base ≤ W.heap.size)
  (h : ∀ v' w', OwnI w' base v' (xs ++ ys) → Below base W w' → W.grownBy w' v.ownBlock → (v'.ownBlock = v.ownBlock ∨ v'.ownBlock = some W.heap.size) → K (a.put o.dst v') w') : if Region.wanted o (yielded ops a.tmps) = true then Oper.wp Try.prog o a W K Q else K (a.put o.dst undef) W := by
 obtain ⟨i0, hi, hz0, hz1, hz2⟩ := info_parts info3
 have hM : maxLen = 9223372036854775807 := rfl
 rw [if_pos hw]
 obtain ⟨v1, w1, hr, hown, hg, _, hat⟩ := run_append_own_at (P := Try.prog) (w := W) base t o.type 3 i0 (.int .i64 0) 1 8 ht hi hz0 hz1 hz2 rfl (by decide) v xs.length (cellsI xs) hv ad m c (cellsI ys) (by rw [cellsI_len, hm, Nat.mul_one]) hc (cellsI_oneC ys) (by omega) (by omega) hb
 unfold Oper.wp execOp
 simp only [ho, resolve, invoke, builtin, Sem.run_bind, Sem.run_pure, Result.andThen_ok, List.map_toArray, List.map_cons, List.map_nil, hs, hx, hr]
 refine h v1 w1 ?_ ((Below.refl _ _).grown hg hb (fun j ej => (hv.lt j ej).1)) hg hat
 unfold OwnI
 rw [List.length_append, ← hm]
 rw [show cellsI (xs ++ ys) = cellsI xs ++ cellsI ys by simp [cellsI]]
 exact hown
theorem dist_app {vA vB v' : Value} {m : Nat} (hd : ∀ k, vA.ownBlock = some k → vB.ownBlock ≠ some k) (hv : v'.ownBlock = vA.ownBlock ∨ v'.ownBlock = some m) (hlt : ∀ k, vB.ownBlock = some k → k < m) : ∀ k, v'.ownBlock = some k → vB.ownBlock ≠ some k := fun k hk e => by
 rcases hv with h | h
 · exact hd k (h ▸ hk) e
 · have := hlt k e
   rw [h] at hk
   have := Option.some.inj hk
   omega
theorem dist_sym {vA vB : Value} (hd : ∀ k, vA.ownBlock = some k → vB.ownBlock ≠ some k) : ∀ k, vB.ownBlock = some k → vA.ownBlock ≠ some k := fun k hk e => hd k e hk

end Go.Proofs.Ythddeillkdediaa.H

/- The reference's table, in plain. -/
namespace Go.Proofs.Ythddeillkdediaa.H
open Go.RowKit Go.Proofs.YthddeillkdediaaW.PrintWords Go.Proofs.YthddeillkdediaaW.PrintLast Go.Proofs.YthddeillkdediaaW.PrintMore
open Go.Shelf Go.Proofs.Ythddeillkdediaa.QA
set_option linter.unusedVariables false
set_option linter.unusedSimpArgs false


theorem ints_cells {W : World} {ad : Addr} {n : Nat} {xs : List Int} (h : Kd.C (Kd.int .i64) W (some ad) n xs) : ∀ j u, (cellsI xs)[j]? = some u → W.cell? (ad.add j) = some u := fun j u hu => by
 obtain ⟨h1, h2, h3⟩ := h
 have hj : j < xs.length := by have := (List.getElem?_eq_some_iff.1 hu).1; rwa [cellsI_len] at this
 obtain ⟨ad2, had, hc⟩ := h3 (by omega)
 cases had
 obtain ⟨c, _, hK, hc2⟩ := hc j xs[j] (List.getElem?_eq_getElem hj)
 have e : c = [.int .i64 xs[j]] := hK
 have e2 : u = .int .i64 xs[j] := by
  unfold cellsI at hu
  rw [List.getElem?_map, List.getElem?_eq_getElem hj] at hu
  exact (Option.some.inj hu).symm
 rw [e2]
 have := hc2 0 (.int .i64 xs[j]) (by rw [e]; rfl)
 rw [show (Kd.int IntKind.i64).sz = 1 from rfl, Nat.mul_one, Nat.add_zero] at this
 exact this
theorem C_some {W : World} {A : Option Addr} {n : Nat} {xs : List Int} (h : Kd.C (Kd.int .i64) W A n xs) (hn : 0 < n) : ∃ ad, A = some ad := by
 obtain ⟨_, _, h3⟩ := h
 obtain ⟨ad, e, _⟩ := h3 hn
 exact ⟨ad, e⟩
theorem rd_cell {W : World} {ad : Addr} {n : Nat} {xs : List Int} (h : Kd.C (Kd.int .i64) W (some ad) n xs) (i : Nat) (hi : i < xs.length) : W.cell? (ad.add i) = some (.int .i64 (rd xs (i : Int))) := by
 refine ints_cells h i _ ?_
 unfold cellsI rd
 rw [List.getElem?_map, List.getElem?_eq_getElem hi, Int.toNat_natCast, List.getD_eq_getElem?_getD, List.getElem?_eq_getElem hi]
 rfl

end Go.Proofs.Ythddeillkdediaa.H

/- The reference's choices, walked. -/
namespace Go.Proofs.Ythddeillkdediaa.H
open Go.RowKit Go.Proofs.YthddeillkdediaaW.PrintWords Go.Proofs.YthddeillkdediaaW.PrintLast Go.Proofs.YthddeillkdediaaW.PrintMore
open Go.Shelf Go.Proofs.Ythddeillkdediaa.QA
set_option linter.unusedVariables false
set_option linter.unusedSimpArgs false


/-- One row of one's own. -/
def R1 (w : World) (g n : Nat) (V : Nat → Value) : Prop := ∃ T : Array Value, T.size = n ∧ w.heap[g]? = some (.cells T 3 (0, 0)) ∧ ∀ x, x < n → T[x]? = some (V x)
theorem R1.below {w w' : World} {g n : Nat} {V : Nat → Value} (h : R1 w g n V) (hb : Below w.heap.size w w') : R1 w' g n V := by
 obtain ⟨T, h1, h2, h3⟩ := h
 exact ⟨T, h1, blk_below2 hb h2, h3⟩
theorem R1.cell {w : World} {g n : Nat} {V : Nat → Value} (h : R1 w g n V) (x : Nat) (hx : x < n) : w.cell? ⟨g, x, none⟩ = some (V x) ∧ w.frozen? ⟨g, x, none⟩ = false := by
 obtain ⟨T, h1, h2, h3⟩ := h
 exact ⟨(blk_cell h2 x).trans (h3 x hx), blk_frozen h2 x⟩
theorem R1.put {w : World} {g n : Nat} {V V' : Nat → Value} (h : R1 w g n V) (x : Nat) (hx : x < n) (v : Value) (hV : ∀ y, y < n → V' y = if y = x then v else V y) : R1 (w.setCell ⟨g, x, none⟩ v) g n V' := by
 obtain ⟨T, h1, h2, h3⟩ := h
 refine ⟨T.setIfInBounds x v, by simp [h1], blk_set h2 x v, fun y hy => ?_⟩
 rw [hV y hy]
 by_cases e : y = x
 · subst e
   rw [if_pos rfl]
   simp [h1, hx]
 · rw [if_neg e, Array.getElem?_setIfInBounds_ne (Ne.symm e)]
   exact h3 y hy
theorem R1.own {w : World} {g n base : Nat} {f : Nat → Int} (h : R1 w g n (fun x => .int .i64 (f x))) (hb : base ≤ g) (hn : n ≤ 1000000) : OwnI w base (.slice (some ⟨g, 0, none⟩) n n) ((List.range n).map f) := by
 obtain ⟨T, h1, h2, h3⟩ := h
 have hM : maxLen = 9223372036854775807 := rfl
 refine ⟨by simp [cellsI], .inr ⟨g, n, T, by simp, hb, h2, by simp, by omega, by simp [h1], ?_⟩⟩
 refine List.ext_getElem (by simp [cellsI, h1]) fun i hi1 hi2 => ?_
 have hi : i < n := by simpa [cellsI] using hi2
 rw [List.getElem_take, Array.getElem_toList]
 have h4 := h3 i hi
 rw [Array.getElem?_eq_getElem (by omega)] at h4
 rw [Option.some.inj h4]
 simp [cellsI]
theorem R1.made {w : World} {n : Nat} (f : Nat → Int) (hf : ∀ x, f x = 0) : R1 (w.alloc (.cells (madeCells #[.int .i64 0] n) 3)) w.heap.size n (fun x => .int .i64 (f x)) := by
 refine ⟨madeCells #[.int .i64 0] n, by simp [size_madeCells], blk_new w _, fun x hx => ?_⟩
 rw [← Array.getElem?_toList, toList_madeCells_one]
 simp only [hf x]
 simp [hx]
theorem meas_up (m k : Nat) (h : k < m) : m - (((k + 1 : Nat) : Int)).toNat < m - ((k : Int)).toNat := by omega
theorem R1.congr {w : World} {g n : Nat} {V V' : Nat → Value} (h : R1 w g n V) (hV : ∀ y, y < n → V' y = V y) : R1 w g n V' := by
 obtain ⟨T, h1, h2, h3⟩ := h
 exact ⟨T, h1, h2, fun y hy => by rw [hV y hy]; exact h3 y hy⟩
section
end
/-- The reference's choices, for valid samples. -/
def pianolaref10_choices.f (a b : List Int) : Option (List Int) := if (1 ≤ a.length ∧ a.length ≤ 16) ∧ (1 ≤ b.length ∧ b.length ≤ 16) then some ((beatsU a b).map (chF a b)) else none
end Go.Proofs.Ythddeillkdediaa.H
