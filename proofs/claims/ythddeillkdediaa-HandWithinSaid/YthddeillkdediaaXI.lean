/- Texts MT, MV, RT, PS, HK, HL of this chapter, one behind the other. -/
import Derived.BigQuiet
import Derived.Carry
import Derived.LoopIn
import Derived.LoopNIn
import Derived.OwnWalkIn
import Derived.StillTailTactics
import Derived.TacticsInMore
import Derived.Test.YthddeillkdediaaXF
import Derived.Test.YthddeillkdediaaXH

/- Tables of rows of one's own. -/
namespace Go.Proofs.Ythddeillkdediaa.H
open Go.RowKit Go.Proofs.YthddeillkdediaaW.PrintWords Go.Proofs.YthddeillkdediaaW.PrintLast Go.Proofs.YthddeillkdediaaW.PrintMore
open Go.Shelf Go.Proofs.Ythddeillkdediaa.QA
set_option linter.unusedVariables false
set_option linter.unusedSimpArgs false

/-- A table of rows of one's own: which rows are there, where they lie, and what is in them. -/
structure Mt (w : World) (base g n m : Nat) (t1 t2 : TypeId) (D : Nat → Prop) (B : Nat → Nat) (V : Nat → Nat → Value) : Prop where
 top : ∃ T : Array Value, T.size = n ∧ w.heap[g]? = some (.cells T t1 (0, 0)) ∧ ∀ r, r < n → (D r → T[r]? = some (.slice (some ⟨B r, 0, none⟩) m m)) ∧ (¬ D r → T[r]? = some (.slice none 0 0))
 row : ∀ r, r < n → D r → ∃ T : Array Value, T.size = m ∧ w.heap[B r]? = some (.cells T t2 (0, 0)) ∧ ∀ k, k < m → T[k]? = some (V r k)
 gb : base ≤ g
 rb : ∀ r, r < n → D r → base ≤ B r ∧ B r ≠ g
 inj : ∀ r r', r < n → r' < n → D r → D r' → B r = B r' → r = r'
variable {w : World} {base g n m : Nat} {t1 t2 : TypeId} {D : Nat → Prop} {B : Nat → Nat} {V : Nat → Nat → Value}
theorem Mt.lt (h : Mt w base g n m t1 t2 D B V) : g < w.heap.size := by
 obtain ⟨T, _, h1, _⟩ := h.top
 exact blk_lt h1
theorem Mt.below {w' : World} (h : Mt w base g n m t1 t2 D B V) (hb : Below w.heap.size w w') : Mt w' base g n m t1 t2 D B V := by
 obtain ⟨⟨T, h1, h2, h3⟩, h4, h5, h6, h7⟩ := h
 refine ⟨⟨T, h1, blk_below h2 hb, h3⟩, fun r hr hd => ?_, h5, h6, h7⟩
 obtain ⟨T', e1, e2, e3⟩ := h4 r hr hd
 exact ⟨T', e1, blk_below e2 hb, e3⟩
theorem Mt.congr {D' : Nat → Prop} {V' : Nat → Nat → Value} (h : Mt w base g n m t1 t2 D B V) (hD : ∀ r, r < n → (D' r ↔ D r)) (hV : ∀ r k, r < n → D r → k < m → V' r k = V r k) : Mt w base g n m t1 t2 D' B V' := by
 obtain ⟨⟨T, h1, h2, h3⟩, h4, h5, h6, h7⟩ := h
 refine ⟨⟨T, h1, h2, fun r hr => ⟨fun hd => (h3 r hr).1 ((hD r hr).1 hd), fun hd => (h3 r hr).2 (fun e => hd ((hD r hr).2 e))⟩⟩, fun r hr hd => ?_, h5, fun r hr hd => h6 r hr ((hD r hr).1 hd), fun r r' hr hr' hd hd' => h7 r r' hr hr' ((hD r hr).1 hd) ((hD r' hr').1 hd')⟩
 obtain ⟨T', e1, e2, e3⟩ := h4 r hr ((hD r hr).1 hd)
 exact ⟨T', e1, e2, fun k hk => by rw [hV r k hr ((hD r hr).1 hd) hk]; exact e3 k hk⟩
/-- A store into a row. -/
theorem Mt.put (h : Mt w base g n m t1 t2 D B V) (r k : Nat) (v : Value) (hr : r < n) (hd : D r) (hk : k < m) : Mt (w.setCell ⟨B r, k, none⟩ v) base g n m t1 t2 D B (fun r' k' => if r' = r ∧ k' = k then v else V r' k') := by
 obtain ⟨⟨T, h1, h2, h3⟩, h4, h5, h6, h7⟩ := h
 refine ⟨⟨T, h1, blk_far h2 (fun e => (h6 r hr hd).2 e.symm) v, h3⟩, fun r' hr' hd' => ?_, h5, h6, h7⟩
 obtain ⟨T', e1, e2, e3⟩ := h4 r' hr' hd'
 by_cases e : r' = r
 · subst e
   refine ⟨T'.setIfInBounds k v, by simp [e1], blk_set e2 k v, fun k' hk' => ?_⟩
   by_cases ek : k' = k
   · subst ek
     simp [e1, hk]
   · simp only [ek, and_false, if_false]
     rw [Array.getElem?_setIfInBounds_ne (Ne.symm ek)]
     exact e3 k' hk'
 · refine ⟨T', e1, blk_far e2 (fun e' => e (h7 _ _ hr' hr hd' hd e')) v, fun k' hk' => ?_⟩
   simp only [e, false_and, if_false]
   exact e3 k' hk'
/-- A table without rows. -/
theorem Mt.start (w : World) (base n m : Nat) (t1 t2 : TypeId) (B : Nat → Nat) (V : Nat → Nat → Value) (hb : base ≤ w.heap.size) : Mt (w.alloc (.cells (madeCells #[.slice none 0 0] n) t1)) base w.heap.size n m t1 t2 (fun _ => False) B V := by
 refine ⟨⟨madeCells #[.slice none 0 0] n, by simp [size_madeCells], blk_new w _, fun r hr => ⟨fun h => h.elim, fun _ => ?_⟩⟩, fun _ _ h => h.elim, hb, fun _ _ h => h.elim, fun _ _ _ _ h => h.elim⟩
 rw [← Array.getElem?_toList, toList_madeCells_one]
 simp [hr]


theorem OwnI.empty {W : World} {base : Nat} (hb : base ≤ W.heap.size) : OwnI (W.alloc (.cells #[] 3)) base (.slice (some ⟨W.heap.size, 0, none⟩) 0 0) [] :=
 ⟨by simp [cellsI], .inr ⟨W.heap.size, 0, #[], rfl, hb, blk_new W _, by simp, by simp, by simp, by simp [cellsI]⟩⟩


end Go.Proofs.Ythddeillkdediaa.H

/- Own rows with room. -/
namespace Go.Proofs.Ythddeillkdediaa.H
open Go.RowKit Go.Proofs.YthddeillkdediaaW.PrintWords Go.Proofs.YthddeillkdediaaW.PrintLast Go.Proofs.YthddeillkdediaaW.PrintMore
open Go.Shelf Go.Proofs.Ythddeillkdediaa.QA
set_option linter.unusedVariables false
set_option linter.unusedSimpArgs false


/-- An own row with room. -/
structure R2 (w : World) (g cap : Nat) (xs : List Int) : Prop where
 le : xs.length ≤ cap ∧ xs.length ≤ 1000000
 blk : ∃ T : Array Value, T.size = cap ∧ w.heap[g]? = some (.cells T 3 (0, 0)) ∧ ∀ i : Nat, i < xs.length → T[i]? = some (.int .i64 (rd xs (i : Int)))
variable {w w' : World} {g cap : Nat} {xs : List Int}
theorem R2.lt (h : R2 w g cap xs) : g < w.heap.size := by
 obtain ⟨T, _, h2, _⟩ := h.blk
 exact blk_lt h2
theorem R2.below (h : R2 w g cap xs) (hb : Below w.heap.size w w') : R2 w' g cap xs := by
 obtain ⟨T, h1, h2, h3⟩ := h.blk
 exact ⟨h.le, T, h1, blk_below2 hb h2, h3⟩
theorem R2.cell (h : R2 w g cap xs) (i : Nat) (hi : i < xs.length) : w.cell? ⟨g, i, none⟩ = some (.int .i64 (rd xs (i : Int))) ∧ w.frozen? ⟨g, i, none⟩ = false := by
 obtain ⟨T, h1, h2, h3⟩ := h.blk
 exact ⟨(blk_cell h2 i).trans (h3 i hi), blk_frozen h2 i⟩
theorem rd_setN (l : List Int) (i : Nat) (v : Int) (j : Nat) (hj : j < l.length) : rd (l.set i v) (j : Int) = if i = j then v else rd l (j : Int) := by
 unfold rd
 rw [Int.toNat_natCast, List.getD_eq_getElem?_getD, List.getD_eq_getElem?_getD, List.getElem?_set]
 by_cases h : i = j
 · rw [if_pos h, if_pos h, if_pos (by omega)]
   rfl
 · rw [if_neg h, if_neg h]
theorem R2.put (h : R2 w g cap xs) (i : Nat) (hi : i < xs.length) (x : Int) : R2 (w.setCell ⟨g, i, none⟩ (.int .i64 x)) g cap (xs.set i x) := by
 obtain ⟨T, h1, h2, h3⟩ := h.blk
 refine ⟨by rw [List.length_set]; exact h.le, T.setIfInBounds i (.int .i64 x), by simp [h1], blk_set h2 i _, fun j hj => ?_⟩
 rw [List.length_set] at hj
 rw [rd_setN xs i x j hj]
 by_cases e : i = j
 · subst e
   rw [if_pos rfl]
   have hlt : i < T.size := by have := h.le; omega
   simp [hlt]
 · rw [if_neg e, Array.getElem?_setIfInBounds_ne e]
   exact h3 j hj
theorem R2.C (h : R2 w g cap xs) : Kd.C (Kd.int .i64) w (some ⟨g, 0, none⟩) xs.length xs := by
 refine Kd.C_of_reads (d := 0) ⟨rfl, by have := h.le; omega, fun _ => ⟨_, rfl, fun j hj => ?_⟩⟩
 have := (h.cell j hj).1
 rw [add_plain]
 first | rw [this] | (rw [Nat.zero_add]; rw [this])
 unfold rd
 rw [Int.toNat_natCast]
theorem R2.of_own {base : Nat} {v : Value} (h : OwnI w base v xs) (hx : xs ≠ []) (hl : xs.length ≤ 1000000) : ∃ g cap, v = .slice (some ⟨g, 0, none⟩) xs.length cap ∧ base ≤ g ∧ R2 w g cap xs ∧ v.ownBlock = some g := by
 have hl0 : 0 < xs.length := List.length_pos_iff.2 hx
 rcases h.2 with ⟨h3, h4⟩ | ⟨g, cap, cur, rfl, h4, h5, h6, h7, h8, h9⟩
 · omega
 · refine ⟨g, cap, rfl, h4, ⟨⟨by omega, hl⟩, cur, by omega, h5, fun i hi => ?_⟩, rfl⟩
   have e : (cellsI xs)[i]? = some (.int .i64 (rd xs (i : Int))) := by
    unfold cellsI rd
    rw [List.getElem?_map, List.getElem?_eq_getElem hi, Int.toNat_natCast, List.getD_eq_getElem?_getD, List.getElem?_eq_getElem hi]
    rfl
   rw [← h9, List.getElem?_take_of_lt (by omega), Array.getElem?_toList] at e
   exact e

end Go.Proofs.Ythddeillkdediaa.H

/- Two operations may come up; appends in a drawn region. -/
namespace Go.Proofs.Ythddeillkdediaa.H
open Go.RowKit Go.Proofs.YthddeillkdediaaW.PrintWords Go.Proofs.YthddeillkdediaaW.PrintLast Go.Proofs.YthddeillkdediaaW.PrintMore
open Go.Shelf Go.Proofs.Ythddeillkdediaa.QA
set_option linter.unusedVariables false
set_option linter.unusedSimpArgs false


section
variable {P : Program} {ops : Array Oper} {Q : Exit → Act → World → Prop} {md : Region.Mode} {S : World → Prop} {ds : List Nat}
/-- Two operations may come up next. -/
theorem two_ {i j : Nat} {Ni Nj : Option Tmp} {oi oj : Oper} {fuel : Nat} {l : Array Bool} {a : Act} {w : World} (li lj : Array Bool) (hi : ops[i]? = some oi) (hj : ops[j]? = some oj) (hNi : oi.dst = Ni) (hNj : oj.dst = Nj)
    {T : Bool × List (List Nat × List Nat)} (hT : rtab md ops = T) (hc : (readyT T.2 l.toList == [i, j] && (l.toList.set i true == li.toList && l.toList.set j true == lj.toList)) = true) (hdi : i ∉ ds) (hdj : j ∉ ds)
    (h1 : ∀ K : Act → World → Prop, Shut (∀ a' w', S w' → (S w' → wpAnyLast P md ops Q S ds fuel li a' w') → K a' w') → if Region.wanted oi (yielded ops a.tmps) = true then Oper.wp P oi a w K Q else K (a.put Ni undef) w)
    (h2 : ∀ K : Act → World → Prop, Shut (∀ a' w', S w' → (S w' → wpAnyLast P md ops Q S ds fuel lj a' w') → K a' w') → if Region.wanted oj (yielded ops a.tmps) = true then Oper.wp P oj a w K Q else K (a.put Nj undef) w) :
    wpAnyLast P md ops Q S ds (fuel + 1) l a w := by
  subst hNi
  subst hNj
  simp only [Bool.and_eq_true] at hc
  obtain ⟨h3, h4, h5⟩ := hc
  subst hT
  have e3 : Region.ready md ops l = [i, j] := by
    have := ready_eq (md := md) (ops := ops) (l := l)
    rw [this]
    exact beq_iff_eq.1 h3
  have e4 := beq_iff_eq.1 (set_of h4)
  have e5 := beq_iff_eq.1 (set_of h5)
  subst e4
  subst e5
  exact wpAnyLast_ready e3 (by simp) (AllReadyL.cons hi hdi (fun K hK => h1 K hK) (AllReadyL.cons hj hdj (fun K hK => h2 K hK) AllReadyL.nil))
end
theorem step_append_OwnI {ops : Array Oper} {o : Oper} {a : Act} {K : Act → World → Prop} {Q : Exit → Act → World → Prop} {W : World} (hw : Region.wanted o (yielded ops a.tmps) = true) (t : TypeId) (ht : Try.prog.underlying t = some (.slice 3)) (s x : Operand)
  (ho : o.op = .call { callee := .builtin .append, args := #[s, x], argTypes := #[t, t] }) (base : Nat) (v : Value) (xs ys : List Int) (hs : a.eval s = v) (hv : OwnI W base v xs) (ad : Addr) (m c : Nat) (hx : a.eval x = .slice (some ad) m c) (hm : m = ys.length)
  (hc : ∀ j u, (cellsI ys)[j]? = some u → W.cell? (ad.add j) = some u) (hl : xs.length + m ≤ 1000000) (hb : base ≤ W.heap.size)
  (h : ∀ v' w', OwnI w' base v' (xs ++ ys) → Below base W w' → W.grownBy w' v.ownBlock → (v'.ownBlock = v.ownBlock ∨ v'.ownBlock = some W.heap.size) → K (a.put o.dst v') w') : if Region.wanted o (yielded ops a.tmps) = true then Oper.wp Try.prog o a W K Q else K (a.put o.dst undef) W := by
 obtain ⟨i0, hi, hz0, hz1, hz2⟩ := info_parts info3
 have hM : maxLen = 9223372036854775807 := rfl
 rw [if_pos hw]
 obtain ⟨v1, w1, hr, hown, hg, _, hat⟩ := run_append_own_at (P := Try.prog) (w := W) base t o.type 3 i0 (.int .i64 0) 1 8 ht hi hz0 hz1 hz2 rfl (by decide) v xs.length (cellsI xs) hv ad m c (cellsI ys) (by rw [cellsI_len, hm, Nat.mul_one]) hc (cellsI_oneC ys) (by omega) (by omega) hb
 unfold Oper.wp execOp
 simp only [ho, resolve, invoke, builtin, Sem.run_bind, Sem.run_pure, Result.andThen_ok, List.map_toArray, List.map_cons, List.map_nil, hs, hx, hr]
 refine h v1 w1 ?_ ((Below.refl _ _).grown hg hb (fun j ej => (hv.lt j ej).1)) hg hat
 unfold OwnI
 rw [List.length_append, ← hm]
 rw [show cellsI (xs ++ ys) = cellsI xs ++ cellsI ys by simp [cellsI]]
 exact hown
theorem dist_app {vA vB v' : Value} {m : Nat} (hd : ∀ k, vA.ownBlock = some k → vB.ownBlock ≠ some k) (hv : v'.ownBlock = vA.ownBlock ∨ v'.ownBlock = some m) (hlt : ∀ k, vB.ownBlock = some k → k < m) : ∀ k, v'.ownBlock = some k → vB.ownBlock ≠ some k := fun k hk e => by
 rcases hv with h | h
 · exact hd k (h ▸ hk) e
 · have := hlt k e
   rw [h] at hk
   have := Option.some.inj hk
   omega
theorem dist_sym {vA vB : Value} (hd : ∀ k, vA.ownBlock = some k → vB.ownBlock ≠ some k) : ∀ k, vB.ownBlock = some k → vA.ownBlock ≠ some k := fun k hk e => hd k e hk

end Go.Proofs.Ythddeillkdediaa.H

/- The reference's table, in plain. -/
namespace Go.Proofs.Ythddeillkdediaa.H
open Go.RowKit Go.Proofs.YthddeillkdediaaW.PrintWords Go.Proofs.YthddeillkdediaaW.PrintLast Go.Proofs.YthddeillkdediaaW.PrintMore
open Go.Shelf Go.Proofs.Ythddeillkdediaa.QA
set_option linter.unusedVariables false
set_option linter.unusedSimpArgs false


theorem ints_cells {W : World} {ad : Addr} {n : Nat} {xs : List Int} (h : Kd.C (Kd.int .i64) W (some ad) n xs) : ∀ j u, (cellsI xs)[j]? = some u → W.cell? (ad.add j) = some u := fun j u hu => by
 obtain ⟨h1, h2, h3⟩ := h
 have hj : j < xs.length := by have := (List.getElem?_eq_some_iff.1 hu).1; rwa [cellsI_len] at this
 obtain ⟨ad2, had, hc⟩ := h3 (by omega)
 cases had
 obtain ⟨c, _, hK, hc2⟩ := hc j xs[j] (List.getElem?_eq_getElem hj)
 have e : c = [.int .i64 xs[j]] := hK
 have e2 : u = .int .i64 xs[j] := by
  unfold cellsI at hu
  rw [List.getElem?_map, List.getElem?_eq_getElem hj] at hu
  exact (Option.some.inj hu).symm
 rw [e2]
 have := hc2 0 (.int .i64 xs[j]) (by rw [e]; rfl)
 rw [show (Kd.int IntKind.i64).sz = 1 from rfl, Nat.mul_one, Nat.add_zero] at this
 exact this
end Go.Proofs.Ythddeillkdediaa.H

/- The reference's choices, walked. -/
namespace Go.Proofs.Ythddeillkdediaa.H
open Go.RowKit Go.Proofs.YthddeillkdediaaW.PrintWords Go.Proofs.YthddeillkdediaaW.PrintLast Go.Proofs.YthddeillkdediaaW.PrintMore
open Go.Shelf Go.Proofs.Ythddeillkdediaa.QA
set_option linter.unusedVariables false
set_option linter.unusedSimpArgs false


/-- One row of one's own. -/
def R1 (w : World) (g n : Nat) (V : Nat → Value) : Prop := ∃ T : Array Value, T.size = n ∧ w.heap[g]? = some (.cells T 3 (0, 0)) ∧ ∀ x, x < n → T[x]? = some (V x)
theorem R1.below {w w' : World} {g n : Nat} {V : Nat → Value} (h : R1 w g n V) (hb : Below w.heap.size w w') : R1 w' g n V := by
 obtain ⟨T, h1, h2, h3⟩ := h
 exact ⟨T, h1, blk_below2 hb h2, h3⟩
theorem R1.cell {w : World} {g n : Nat} {V : Nat → Value} (h : R1 w g n V) (x : Nat) (hx : x < n) : w.cell? ⟨g, x, none⟩ = some (V x) ∧ w.frozen? ⟨g, x, none⟩ = false := by
 obtain ⟨T, h1, h2, h3⟩ := h
 exact ⟨(blk_cell h2 x).trans (h3 x hx), blk_frozen h2 x⟩
theorem R1.put {w : World} {g n : Nat} {V V' : Nat → Value} (h : R1 w g n V) (x : Nat) (hx : x < n) (v : Value) (hV : ∀ y, y < n → V' y = if y = x then v else V y) : R1 (w.setCell ⟨g, x, none⟩ v) g n V' := by
 obtain ⟨T, h1, h2, h3⟩ := h
 refine ⟨T.setIfInBounds x v, by simp [h1], blk_set h2 x v, fun y hy => ?_⟩
 rw [hV y hy]
 by_cases e : y = x
 · subst e
   rw [if_pos rfl]
   simp [h1, hx]
 · rw [if_neg e, Array.getElem?_setIfInBounds_ne (Ne.symm e)]
   exact h3 y hy
theorem R1.own {w : World} {g n base : Nat} {f : Nat → Int} (h : R1 w g n (fun x => .int .i64 (f x))) (hb : base ≤ g) (hn : n ≤ 1000000) : OwnI w base (.slice (some ⟨g, 0, none⟩) n n) ((List.range n).map f) := by
 obtain ⟨T, h1, h2, h3⟩ := h
 have hM : maxLen = 9223372036854775807 := rfl
 refine ⟨by simp [cellsI], .inr ⟨g, n, T, by simp, hb, h2, by simp, by omega, by simp [h1], ?_⟩⟩
 refine List.ext_getElem (by simp [cellsI, h1]) fun i hi1 hi2 => ?_
 have hi : i < n := by simpa [cellsI] using hi2
 rw [List.getElem_take, Array.getElem_toList]
 have h4 := h3 i hi
 rw [Array.getElem?_eq_getElem (by omega)] at h4
 rw [Option.some.inj h4]
 simp [cellsI]
theorem R1.made {w : World} {n : Nat} (f : Nat → Int) (hf : ∀ x, f x = 0) : R1 (w.alloc (.cells (madeCells #[.int .i64 0] n) 3)) w.heap.size n (fun x => .int .i64 (f x)) := by
 refine ⟨madeCells #[.int .i64 0] n, by simp [size_madeCells], blk_new w _, fun x hx => ?_⟩
 rw [← Array.getElem?_toList, toList_madeCells_one]
 simp only [hf x]
 simp [hx]
theorem meas_up (m k : Nat) (h : k < m) : m - (((k + 1 : Nat) : Int)).toNat < m - ((k : Int)).toNat := by omega
theorem R1.congr {w : World} {g n : Nat} {V V' : Nat → Value} (h : R1 w g n V) (hV : ∀ y, y < n → V' y = V y) : R1 w g n V' := by
 obtain ⟨T, h1, h2, h3⟩ := h
 exact ⟨T, h1, h2, fun y hy => by rw [hV y hy]; exact h3 y hy⟩
section
end
/-- The reference's choices, for valid samples. -/
def pianolaref10_choices.f (a b : List Int) : Option (List Int) := if (1 ≤ a.length ∧ a.length ≤ 16) ∧ (1 ≤ b.length ∧ b.length ≤ 16) then some ((beatsU a b).map (chF a b)) else none
end Go.Proofs.Ythddeillkdediaa.H

/- The reference's Within, walked. -/
namespace Go.Proofs.Ythddeillkdediaa.H
open Go.RowKit Go.Proofs.YthddeillkdediaaW.PrintWords Go.Proofs.YthddeillkdediaaW.PrintLast Go.Proofs.YthddeillkdediaaW.PrintMore
open Go.Shelf Go.Proofs.Ythddeillkdediaa.QA
set_option linter.unusedVariables false
set_option linter.unusedSimpArgs false

def wi10_T : Bool × List (List Nat × List Nat) := (true, [([], []), ([], []), ([0, 1], [0, 1]), ([2], [2]), ([3], [3]), ([], []), ([], []), ([5, 6], [5, 6]), ([7], [7]), ([8], [8]), ([4, 9], [4, 9]), ([10], [10]), ([11, 10], [11]), ([12], [12]), ([12], [12]), ([13, 14, 12], [12, 13, 14]), ([15, 12], [12, 15]), ([16, 12], [12, 16]), ([17, 12], [12, 17]), ([12, 18], [12, 18])])
def wi10_B : List Nat := [0, 0, 3, 7, 15, 0, 0, 96, 224, 480, 1023, 2047, 4095, 8191, 8191, 32767, 65535, 131071, 262143, 524287]
theorem wi10_tab : rtab .any (opsOf Try.f29 10) = wi10_T := by kernel_rfl
theorem wi10_bits : waitsOk wi10_T.2 wi10_B = true := by kernel_rfl
def wi12_T : Bool × List (List Nat × List Nat) := (true, [([], []), ([], []), ([], []), ([1, 2], [1, 2]), ([3], [3]), ([4], [4]), ([5], [5]), ([0, 6], [0, 6]), ([], []), ([], []), ([], []), ([9, 10], [9, 10]), ([11], [11]), ([12], [12]), ([13], [13]), ([8, 14, 7], [8, 14]), ([7, 15, 0, 1, 2, 3, 4, 5, 6, 7], [0, 7]), ([15, 16, 0, 1, 2, 3, 4, 5, 6, 7, 8, 9, 10, 11, 12, 13, 14, 15, 16], [8, 15])])
def wi12_B : List Nat := [0, 0, 0, 6, 14, 30, 62, 127, 0, 0, 0, 1536, 3584, 7680, 15872, 32767, 65535, 131071]
theorem wi12_tab : rtab .any (opsOf Try.f29 12) = wi12_T := by kernel_rfl
theorem wi12_bits : waitsOk wi12_T.2 wi12_B = true := by kernel_rfl
def wi14_T : Bool × List (List Nat × List Nat) := (true, [([], []), ([], []), ([0, 1], [0, 1]), ([], []), ([], []), ([3, 4], [3, 4]), ([2, 5], [2, 5]), ([], []), ([], []), ([7, 8], [7, 8]), ([], []), ([], []), ([10, 11], [10, 11]), ([9, 12, 6], [9, 12]), ([6, 13], [6, 13]), ([14, 13, 0, 1, 2, 3, 4, 5, 6, 7, 8, 9, 10, 11, 12, 13, 14], [14]), ([15, 0, 1, 2, 3, 4, 5, 6, 7, 8, 9, 10, 11, 12, 13, 14, 15], [])])
def wi14_B : List Nat := [0, 0, 3, 0, 0, 24, 63, 0, 0, 384, 0, 0, 3072, 8191, 16383, 32767, 65535]
theorem wi14_tab : rtab .any (opsOf Try.f29 14) = wi14_T := by kernel_rfl
theorem wi14_bits : waitsOk wi14_T.2 wi14_B = true := by kernel_rfl

theorem add_blk (a : Addr) (j : Nat) : (a.add j).block = a.block := by
 unfold Addr.add
 split <;> rfl
theorem OwnSp.empty {W : World} {base : Nat} (hb : base ≤ W.heap.size) : OwnSp (W.alloc (.cells #[] 41)) base (.slice (some ⟨W.heap.size, 0, none⟩) 0 0) [] :=
 ⟨by simp [cellsSp], .inr ⟨W.heap.size, 0, #[], rfl, hb, blk_new W _, by simp, by simp, by simp, by simp [cellsSp]⟩⟩
theorem add_off (g o j : Nat) : (⟨g, o, none⟩ : Addr).add j = ⟨g, o + j, none⟩ := by
 unfold Addr.add
 split
 · rename_i h; rw [h, Nat.add_zero]
 · rfl
theorem C_left {w : World} {A : Option Addr} {n : Nat} {xs ys : List Int} (h : Kd.C (Kd.int .i64) w A n (xs ++ ys)) : Kd.C (Kd.int .i64) w A xs.length xs := by
 obtain ⟨h1, h2, h3⟩ := h
 have hl : (xs ++ ys).length = xs.length + ys.length := List.length_append
 refine ⟨rfl, by omega, fun hp => ?_⟩
 obtain ⟨ad, e, hc⟩ := h3 (by omega)
 refine ⟨ad, e, fun j p hj => ?_⟩
 have hjl : j < xs.length := (List.getElem?_eq_some_iff.1 hj).1
 exact hc j p (by rw [List.getElem?_append_left hjl]; exact hj)
theorem C_right {w : World} {g n m : Nat} {xs ys : List Int} (h : Kd.C (Kd.int .i64) w (some ⟨g, 0, none⟩) n (xs ++ ys)) (hm : m = xs.length) : Kd.C (Kd.int .i64) w (some ⟨g, m, none⟩) ys.length ys := by
 subst hm
 have hc := ints_cells h
 have h2 := h.2.1
 have hl : (xs ++ ys).length = xs.length + ys.length := List.length_append
 refine Kd.C_of_reads (d := 0) ⟨rfl, by have := h.1; omega, fun _ => ⟨_, rfl, fun j hj => ?_⟩⟩
 have e := hc (xs.length + j) (.int .i64 (ys.getD j 0)) (by
  unfold cellsI
  rw [List.getElem?_map, List.getElem?_append_right (by omega), show xs.length + j - xs.length = j by omega, List.getElem?_eq_getElem hj, List.getD_eq_getElem?_getD, List.getElem?_eq_getElem hj]
  rfl)
 rw [add_off] at e ⊢
 rw [Nat.zero_add] at e
 exact e
theorem rbeats_n (A : Option Addr) (c n : Nat) (a : List Int) (B : Option Addr) (d m : Nat) (b : List Int) (r : Int) (w : World) (hn : n = a.length) (hm : m = b.length) (hr : Kd.C (Kd.int .i64) w A a.length a) (hc : a.length ≤ c) (hr2 : Kd.C (Kd.int .i64) w B b.length b) (hc2 : b.length ≤ d) (h : pianolaref10_beats.f 2000 a b = some r) :
  Calls Try.prog 47 #[.slice A n c, .slice B m d] w fun e w' => e = .returned (.int .i64 r) ∧ Drawn0 w w' := by
  subst hn hm
  exact pianolaref10_beats.calls 2000 A c a B d b r w hr hc hr2 hc2 h
theorem CSp_some {W : World} {A : Option Addr} {n : Nat} {xs : List S41} (h : Kd.C k41 W A n xs) (hn : 0 < n) : ∃ ad, A = some ad := by
 obtain ⟨_, _, h3⟩ := h
 obtain ⟨ad, e, _⟩ := h3 hn
 exact ⟨ad, e⟩
theorem lo_take (l : List S41) {i : Nat} (h : i < l.length) : (loI l).take (i + 1) = (loI l).take i ++ [(rd_T41 l (i : Int)).f0] := by
 unfold loI
 rw [← List.map_take, ← List.map_take, take_T41 l h, List.map_append]
 rfl
theorem hi_take (l : List S41) {i : Nat} (h : i < l.length) : (hiI l).take (i + 1) = (hiI l).take i ++ [(rd_T41 l (i : Int)).f1] := by
 unfold hiI
 rw [← List.map_take, ← List.map_take, take_T41 l h, List.map_append]
 rfl
theorem any_first (l : List S41) (i : Nat) (hi : i < l.length) (h : wrongB (rd_T41 l (i : Int)) = true) : l.any wrongB = true := by
 rw [List.any_eq_true]
 refine ⟨rd_T41 l (i : Int), ?_, h⟩
 unfold rd_T41
 rw [Int.toNat_natCast, List.getD_eq_getElem?_getD, List.getElem?_eq_getElem hi]
 exact List.getElem_mem hi
theorem any_none (l : List S41) (h : ∀ j : Nat, j < l.length → wrongB (rd_T41 l (j : Int)) = false) : l.any wrongB = false := by
 rw [List.any_eq_false]
 intro x hx
 obtain ⟨j, hj, rfl⟩ := List.getElem_of_mem hx
 have := h j hj
 unfold rd_T41 at this
 rw [Int.toNat_natCast, List.getD_eq_getElem?_getD, List.getElem?_eq_getElem hj] at this
 simpa using this
set_option maxRecDepth 100000 in
set_option maxHeartbeats 8000000 in
theorem pianolaref10_Within.calls (A : Option Addr) (c : Nat) (a : List S41) (B : Option Addr) (d : Nat) (b : List S41) (r1 r2 r3 : Int) (w : World) (hr : Kd.C k41 w A a.length a) (hc : a.length ≤ c) (hr2 : Kd.C k41 w B b.length b) (hc2 : b.length ≤ d) (h : hand_Within.f a b = some (r1, r2, r3)) :
  Calls Try.prog 29 #[.slice A a.length c, .slice B b.length d] w fun e w' => e = .returned (.tuple #[.agg #[.int .i64 r1, .int .i64 r2], .int .i64 r3]) ∧ Below w.heap.size w w' := by
 have hu41 := Try.underlying41
 have HR := Aside0.mk hr
 have HR2 := Aside0.mk hr2
 have h := Option.some.inj h
 have HB := Aside0.mk (below_alloc (Below.refl w.heap.size w) (.cells #[.int .i64 0, .int .i64 0] 41))
 have HK := Aside0.mk (blk_new w (.cells #[.int .i64 0, .int .i64 0] 41))
 clear hr hr2
 by_cases ha : a.length = 0
 · have hE : withinE a b = 4 := by unfold withinE; rw [if_pos (.inl ha)]
   rw [hE, if_neg (by decide)] at h
   obtain ⟨g1, h2⟩ := Prod.mk.inj h
   obtain ⟨g2, g3⟩ := Prod.mk.inj h2
   clear h h2 hE
   subst g1 g2 g3
   have z1 : ((a.length : Int) == 0) = true := by simp [ha]
   have s0 : (w.alloc (.cells #[.int .i64 0, .int .i64 0] 41)).cell? ⟨w.heap.size, 0, none⟩ = some (.int .i64 0) := (blk_cell HK.out 0).trans rfl
   have s1 : (w.alloc (.cells #[.int .i64 0, .int .i64 0] 41)).cell? ⟨w.heap.size, 1, none⟩ = some (.int .i64 0) := (blk_cell HK.out 1).trans rfl
   have f0 := blk_frozen HK.out 0
   have f1 := blk_frozen HK.out 1
   go_enter Try.func29, Try.ntmps29
   go_wp2
   refine bodyPost_ret (results_ct rfl _ _ w.heap.size 41 #[.int .i64 0, .int .i64 0] (0, 0) _ rfl (by first | exact HK.out | (refine blk_put (cs := #[.int .i64 0, .int .i64 0]) ?_ 1 _ rfl; refine blk_put (cs := #[.int .i64 0, .int .i64 0]) ?_ 0 _ rfl; exact HK.out)) Try.underlying41 rfl (by kernel_rfl)) rfl ?_
   exact ⟨rfl, by first | exact HB.out | exact below_set (below_set HB.out (Nat.le_refl _)) (Nat.le_refl _)⟩
 · have za : ((a.length : Int) == 0) = false := by simp only [beq_eq_false_iff_ne, ne_eq]; omega
   by_cases hb : b.length = 0
   · have hE : withinE a b = 4 := by unfold withinE; rw [if_pos (.inr hb)]
     rw [hE, if_neg (by decide)] at h
     obtain ⟨g1, h2⟩ := Prod.mk.inj h
     obtain ⟨g2, g3⟩ := Prod.mk.inj h2
     clear h h2 hE
     subst g1 g2 g3
     have z1 : ((b.length : Int) == 0) = true := by simp [hb]
     have s0 : (w.alloc (.cells #[.int .i64 0, .int .i64 0] 41)).cell? ⟨w.heap.size, 0, none⟩ = some (.int .i64 0) := (blk_cell HK.out 0).trans rfl
     have s1 : (w.alloc (.cells #[.int .i64 0, .int .i64 0] 41)).cell? ⟨w.heap.size, 1, none⟩ = some (.int .i64 0) := (blk_cell HK.out 1).trans rfl
     have f0 := blk_frozen HK.out 0
     have f1 := blk_frozen HK.out 1
     go_enter Try.func29, Try.ntmps29
     go_wp2
     refine bodyPost_ret (results_ct rfl _ _ w.heap.size 41 #[.int .i64 0, .int .i64 0] (0, 0) _ rfl (by first | exact HK.out | (refine blk_put (cs := #[.int .i64 0, .int .i64 0]) ?_ 1 _ rfl; refine blk_put (cs := #[.int .i64 0, .int .i64 0]) ?_ 0 _ rfl; exact HK.out)) Try.underlying41 rfl (by kernel_rfl)) rfl ?_
     exact ⟨rfl, by first | exact HB.out | exact below_set (below_set HB.out (Nat.le_refl _)) (Nat.le_refl _)⟩
   · have zb : ((b.length : Int) == 0) = false := by simp only [beq_eq_false_iff_ne, ne_eq]; omega
     by_cases h16 : 16 < a.length ∨ 16 < b.length
     · have hE : withinE a b = 5 := by unfold withinE; rw [if_neg (by omega), if_pos h16]
       rw [hE, if_neg (by decide)] at h
       obtain ⟨g1, h2⟩ := Prod.mk.inj h
       obtain ⟨g2, g3⟩ := Prod.mk.inj h2
       clear h h2 hE
       subst g1 g2 g3
       by_cases hx : 16 < a.length
       · have y1 : decide ((16 : Int) < (a.length : Int)) = true := decide_eq_true (by omega)
         have s0 : (w.alloc (.cells #[.int .i64 0, .int .i64 0] 41)).cell? ⟨w.heap.size, 0, none⟩ = some (.int .i64 0) := (blk_cell HK.out 0).trans rfl
         have s1 : (w.alloc (.cells #[.int .i64 0, .int .i64 0] 41)).cell? ⟨w.heap.size, 1, none⟩ = some (.int .i64 0) := (blk_cell HK.out 1).trans rfl
         have f0 := blk_frozen HK.out 0
         have f1 := blk_frozen HK.out 1
         go_enter Try.func29, Try.ntmps29
         go_wp2
         refine bodyPost_ret (results_ct rfl _ _ w.heap.size 41 #[.int .i64 0, .int .i64 0] (0, 0) _ rfl (by first | exact HK.out | (refine blk_put (cs := #[.int .i64 0, .int .i64 0]) ?_ 1 _ rfl; refine blk_put (cs := #[.int .i64 0, .int .i64 0]) ?_ 0 _ rfl; exact HK.out)) Try.underlying41 rfl (by kernel_rfl)) rfl ?_
         exact ⟨rfl, by first | exact HB.out | exact below_set (below_set HB.out (Nat.le_refl _)) (Nat.le_refl _)⟩
       · have y1 : decide ((16 : Int) < (a.length : Int)) = false := decide_eq_false (by omega)
         have hy : 16 < b.length := by omega
         have y3 : decide ((16 : Int) < (b.length : Int)) = true := decide_eq_true (by omega)
         have s0 : (w.alloc (.cells #[.int .i64 0, .int .i64 0] 41)).cell? ⟨w.heap.size, 0, none⟩ = some (.int .i64 0) := (blk_cell HK.out 0).trans rfl
         have s1 : (w.alloc (.cells #[.int .i64 0, .int .i64 0] 41)).cell? ⟨w.heap.size, 1, none⟩ = some (.int .i64 0) := (blk_cell HK.out 1).trans rfl
         have f0 := blk_frozen HK.out 0
         have f1 := blk_frozen HK.out 1
         go_enter Try.func29, Try.ntmps29
         go_wp2
         refine bodyPost_ret (results_ct rfl _ _ w.heap.size 41 #[.int .i64 0, .int .i64 0] (0, 0) _ rfl (by first | exact HK.out | (refine blk_put (cs := #[.int .i64 0, .int .i64 0]) ?_ 1 _ rfl; refine blk_put (cs := #[.int .i64 0, .int .i64 0]) ?_ 0 _ rfl; exact HK.out)) Try.underlying41 rfl (by kernel_rfl)) rfl ?_
         exact ⟨rfl, by first | exact HB.out | exact below_set (below_set HB.out (Nat.le_refl _)) (Nat.le_refl _)⟩
     · have y1 : decide ((16 : Int) < (a.length : Int)) = false := decide_eq_false (by omega)
       have y2 : decide ((16 : Int) < (b.length : Int)) = false := decide_eq_false (by omega)
       have hx : ¬ 16 < a.length := by omega
       have hy : ¬ 16 < b.length := by omega
       have HL := Aside0.mk (show (0 < a.length ∧ a.length ≤ 16) ∧ 0 < b.length ∧ b.length ≤ 16 by omega)
       have hE : withinE a b = if (a ++ b).any wrongB = true then 3 else 0 := by unfold withinE; rw [if_neg (by omega), if_neg h16]
       rw [hE] at h
       have HH := Aside0.mk h
       obtain ⟨ada, rfl⟩ := CSp_some HR.out (by omega)
       obtain ⟨adb, rfl⟩ := CSp_some HR2.out (by omega)
       clear h hE h16
       go_enter Try.func29, Try.ntmps29
       go_wp2_with (at_builtin; refine Aside0.out ?_)
       refine ⟨?_⟩
       refine wpList_append_OwnSp rfl _ _ rfl (w.heap.size + 1) (.slice (some ⟨w.heap.size + 1, 0, none⟩) 0 0) [] a rfl (by have := OwnSp.empty (W := w.alloc (.cells #[.int .i64 0, .int .i64 0] 41)) (base := w.heap.size + 1) (by simp); rw [size1] at this; exact this) ada a.length c rfl rfl (fun j u hu => pw_cell_below (below_alloc HB.out _) (spans_cells HR.out rfl j u hu)) (by have := HL.out; simp; omega) (by simp) ?_
       intro v1 w1 hO1 hb1
       rw [List.nil_append] at hO1
       have hbb : Below (w.heap.size + 1) (w.alloc (.cells #[.int .i64 0, .int .i64 0] 41)) w1 := ((below_alloc (Below.refl (w.alloc (.cells #[.int .i64 0, .int .i64 0] 41)).heap.size (w.alloc (.cells #[.int .i64 0, .int .i64 0] 41))) (.cells #[] 41)).mono (by simp)).trans hb1
       have HB1 := Aside0.mk hbb
       have HO1 := Aside0.mk hO1
       clear hb1 hO1 hbb
       have hs1 : (w.alloc (.cells #[.int .i64 0, .int .i64 0] 41)).heap.size = w.heap.size + 1 := by simp
       go_wp2_with (at_builtin; refine Aside0.out ?_)
       refine ⟨?_⟩
       refine wpList_append_OwnSp rfl _ _ rfl (w.heap.size + 1) v1 a b rfl HO1.out adb b.length d rfl rfl (fun j u hu => pw_cell_below (by rw [hs1]; exact HB1.out) (pw_cell_below HB.out (spans_cells HR2.out rfl j u hu))) (by have := HL.out; omega) (by have := HB1.out.size; rw [hs1] at this; exact this) ?_
       intro v2 w2 hO2 hb2
       have HB2 := Aside0.mk (HB1.out.trans hb2)
       have HK2 := Aside0.mk (blk_below2 (by rw [hs1]; exact HB2.out) HK.out)
       have HBw := Aside0.mk (HB.out.trans ((show Below (w.alloc (.cells #[.int .i64 0, .int .i64 0] 41)).heap.size _ w2 by rw [hs1]; exact HB2.out).mono HB.out.size))
       obtain ⟨all, hall⟩ : ∃ l, l = a ++ b := ⟨_, rfl⟩
       have HAL := Aside0.mk hall
       have hln : all.length = a.length + b.length := by rw [hall, List.length_append]
       rw [← hall] at hO2
       obtain ⟨A5, c5, rfl, hc5, hC5⟩ := Kd.R_reads hO2.R
       obtain ⟨NN, hNN⟩ : ∃ N, N = all.length := ⟨_, rfl⟩
       have HLN := Aside0.mk (show NN = all.length ∧ NN = a.length + b.length ∧ NN ≤ 32 by have := HL.out; omega)
       have HC5 := Aside0.mk (And.intro hc5 hC5)
       have HGS := Aside0.mk (show w.heap.size < w2.heap.size by have := HB2.out.size; rw [hs1] at this; omega)
       rw [← hNN]
       clear hO2 hb2 hc5 hC5 HB1 HO1 HB2 hs1 hall hln hNN
       go_wp2
       go_loopw [7, 8, 9] (fun s7 s8 s9 wr => ∃ (i : Nat) (vl vh : Value), s7 = vl ∧ s8 = vh ∧ s9 = .int .i64 i ∧ Aside0 (i ≤ NN) ∧ Aside0 (∀ j : Nat, j < i → wrongB (rd_T41 all (j : Int)) = false) ∧ Aside0 (OwnI wr w2.heap.size vl ((loI all).take i)) ∧ Aside0 (OwnI wr w2.heap.size vh ((hiI all).take i)) ∧ Aside0 (∀ k, vl.ownBlock = some k → vh.ownBlock ≠ some k) ∧ Aside0 (Below w2.heap.size w2 wr)) (fun _ _ s9 _ => NN - (intOf s9).toNat)
       case atStart => exact ⟨0, .slice none 0 0, .slice none 0 0, rfl, rfl, rfl, ⟨Nat.zero_le _⟩, ⟨fun j hj => absurd hj (Nat.not_lt_zero _)⟩, ⟨OwnI.nil⟩, ⟨OwnI.nil⟩, ⟨fun k hk => by cases hk⟩, ⟨Below.refl _ _⟩⟩
       case round =>
        obtain ⟨i, vl, vh, e7, e8, rfl, HI, HOKS, HOL, HOH, HDI, HBr⟩ := hrel
        replace e7 := e7.symm
        replace e8 := e8.symm
        subst e7
        subst e8
        by_cases hj : i < NN
        · have n1 : i < NN := hj
          have hd : decide ((i : Int) < (NN : Int)) = true := decide_eq_true (by omega)
          clear hj
          have hil : i < all.length := by rw [← HLN.out.1]; exact n1
          obtain ⟨x0, hx0⟩ : ∃ x, x = (rd_T41 all (i : Int)).f0 := ⟨_, rfl⟩
          obtain ⟨x1, hx1⟩ : ∃ x, x = (rd_T41 all (i : Int)).f1 := ⟨_, rfl⟩
          obtain ⟨ad, hA5, t0, t1⟩ := at_T41 HC5.out.2 (i : Int) (by omega) (by omega)
          subst hA5
          rw [Int.toNat_natCast, ← hx0] at t0
          rw [Int.toNat_natCast, ← hx1] at t1
          have HE1 := Aside0.mk (show (loI all).take i ++ [x0] = (loI all).take (i + 1) by rw [lo_take all hil, hx0])
          have HE2 := Aside0.mk (show (hiI all).take i ++ [x1] = (hiI all).take (i + 1) by rw [hi_take all hil, hx1])
          obtain ⟨b1, hb1⟩ : ∃ v, v = isIn (-100000) x0 x1 := ⟨_, rfl⟩
          have HIS := Aside0.mk (show pianolaref10_is.f x0 (-100000) x1 = some b1 by rw [is_f, hb1])
          have hwb : wrongB (rd_T41 all (i : Int)) = (!b1 || decide (100000 < x1)) := by unfold wrongB; rw [← hx0, ← hx1, ← hb1]
          have HWB := Aside0.mk hwb
          have HT0 := Aside0.mk (And.intro t0 t1)
          have HIL := Aside0.mk hil
          clear t0 t1 hx0 hx1 hb1 hwb hil
          go_upto_region 10 with fail
          have HBD := Aside0.mk (below_drew1 HBr.out)
          have HSS := Aside0.mk (And.intro (pw_cell_below HBD.out HT0.out.1) (pw_cell_below HBD.out HT0.out.2))
          have hbd : Below wr.heap.size wr wr.drew := below_drew (Below.refl wr.heap.size wr)
          have HO := Aside0.mk (And.intro (HOL.out.below hbd) (And.intro (HOH.out.below hbd) HDI.out))
          clear hbd HOL HOH HDI
          refine start_ (n := 20) (S := fun w' => w'.cell? (ad.add (i * 2)) = some (.int .i64 x0) ∧ w'.cell? ⟨(ad.add (i * 2)).block, (ad.add (i * 2)).off + 1, none⟩ = some (.int .i64 x1)) (ds := []) #[false, false, false, false, false, false, false, false, false, false, false, false, false, false, false, false, false, false, false, false] (by kernel_rfl) rfl rfl HSS.out (fun hHeld => ?_)
          refine with_tabW wi10_tab wi10_bits (fun HT_ HW_ => ?_)
          generalize wr.drew = wD at HBD HSS HO hHeld ⊢
          refine take_ (i := 0) (N := some 40) (v := ?_) (a' := ?_) #[true, false, false, false, false, false, false, false, false, false, false, false, false, false, false, false, false, false, false, false] rfl rfl (take_ofW HT_.out HW_.out (by kernel_rfl)) (fun _ _ _ h => h) (Or.inl ⟨by rfl, ?_⟩) hHeld ?_ ?_
          rotate_left
          · rintro w' ⟨s0, s1⟩
            go_simp
            with_reducible rfl
          rotate_left
          · simp only [Act.put, List.setIfInBounds_toArray, List.set_cons_zero, List.set_cons_succ, i64_w, i32_w]
            rfl
          refine take_ (i := 1) (N := some 41) (v := ?_) (a' := ?_) #[true, true, false, false, false, false, false, false, false, false, false, false, false, false, false, false, false, false, false, false] rfl rfl (take_ofW HT_.out HW_.out (by kernel_rfl)) (fun _ _ _ h => h) (Or.inl ⟨by rfl, ?_⟩) hHeld ?_ ?_
          rotate_left
          · rintro w' ⟨s0, s1⟩
            go_simp
            with_reducible rfl
          rotate_left
          · simp only [Act.put, List.setIfInBounds_toArray, List.set_cons_zero, List.set_cons_succ, i64_w, i32_w]
            rfl
          refine take_ (i := 2) (N := some 42) (v := ?_) (a' := ?_) #[true, true, true, false, false, false, false, false, false, false, false, false, false, false, false, false, false, false, false, false] rfl rfl (take_ofW HT_.out HW_.out (by kernel_rfl)) (fun _ _ _ h => h) (Or.inl ⟨by rfl, ?_⟩) hHeld ?_ ?_
          rotate_left
          · rintro w' ⟨s0, s1⟩
            go_simp
            with_reducible rfl
          rotate_left
          · simp only [Act.put, List.setIfInBounds_toArray, List.set_cons_zero, List.set_cons_succ, i64_w, i32_w]
            rfl
          refine take_ (i := 3) (N := some 43) (v := ?_) (a' := ?_) #[true, true, true, true, false, false, false, false, false, false, false, false, false, false, false, false, false, false, false, false] rfl rfl (take_ofW HT_.out HW_.out (by kernel_rfl)) (fun _ _ _ h => h) (Or.inl ⟨by rfl, ?_⟩) hHeld ?_ ?_
          rotate_left
          · rintro w' ⟨s0, s1⟩
            go_simp
            with_reducible rfl
          rotate_left
          · simp only [Act.put, List.setIfInBounds_toArray, List.set_cons_zero, List.set_cons_succ, i64_w, i32_w]
            rfl
          refine take_ (i := 4) (N := some 44) (v := ?_) (a' := ?_) #[true, true, true, true, true, false, false, false, false, false, false, false, false, false, false, false, false, false, false, false] rfl rfl (take_ofW HT_.out HW_.out (by kernel_rfl)) (fun _ _ _ h => h) (Or.inl ⟨by rfl, ?_⟩) hHeld ?_ ?_
          rotate_left
          · rintro w' ⟨s0, s1⟩
            go_simp
            with_reducible rfl
          rotate_left
          · simp only [Act.put, List.setIfInBounds_toArray, List.set_cons_zero, List.set_cons_succ, i64_w, i32_w]
            rfl
          refine take_ (i := 5) (N := some 45) (v := ?_) (a' := ?_) #[true, true, true, true, true, true, false, false, false, false, false, false, false, false, false, false, false, false, false, false] rfl rfl (take_ofW HT_.out HW_.out (by kernel_rfl)) (fun _ _ _ h => h) (Or.inl ⟨by rfl, ?_⟩) hHeld ?_ ?_
          rotate_left
          · rintro w' ⟨s0, s1⟩
            go_simp
            with_reducible rfl
          rotate_left
          · simp only [Act.put, List.setIfInBounds_toArray, List.set_cons_zero, List.set_cons_succ, i64_w, i32_w]
            rfl
          refine take_ (i := 6) (N := some 46) (v := ?_) (a' := ?_) #[true, true, true, true, true, true, true, false, false, false, false, false, false, false, false, false, false, false, false, false] rfl rfl (take_ofW HT_.out HW_.out (by kernel_rfl)) (fun _ _ _ h => h) (Or.inl ⟨by rfl, ?_⟩) hHeld ?_ ?_
          rotate_left
          · rintro w' ⟨s0, s1⟩
            go_simp
            with_reducible rfl
          rotate_left
          · simp only [Act.put, List.setIfInBounds_toArray, List.set_cons_zero, List.set_cons_succ, i64_w, i32_w]
            rfl
          refine take_ (i := 7) (N := some 47) (v := ?_) (a' := ?_) #[true, true, true, true, true, true, true, true, false, false, false, false, false, false, false, false, false, false, false, false] rfl rfl (take_ofW HT_.out HW_.out (by kernel_rfl)) (fun _ _ _ h => h) (Or.inl ⟨by rfl, ?_⟩) hHeld ?_ ?_
          rotate_left
          · rintro w' ⟨s0, s1⟩
            go_simp
            with_reducible rfl
          rotate_left
          · simp only [Act.put, List.setIfInBounds_toArray, List.set_cons_zero, List.set_cons_succ, i64_w, i32_w]
            rfl
          refine take_ (i := 8) (N := some 48) (v := ?_) (a' := ?_) #[true, true, true, true, true, true, true, true, true, false, false, false, false, false, false, false, false, false, false, false] rfl rfl (take_ofW HT_.out HW_.out (by kernel_rfl)) (fun _ _ _ h => h) (Or.inl ⟨by rfl, ?_⟩) hHeld ?_ ?_
          rotate_left
          · rintro w' ⟨s0, s1⟩
            go_simp
            with_reducible rfl
          rotate_left
          · simp only [Act.put, List.setIfInBounds_toArray, List.set_cons_zero, List.set_cons_succ, i64_w, i32_w]
            rfl
          refine take_ (i := 9) (N := some 49) (v := ?_) (a' := ?_) #[true, true, true, true, true, true, true, true, true, true, false, false, false, false, false, false, false, false, false, false] rfl rfl (take_ofW HT_.out HW_.out (by kernel_rfl)) (fun _ _ _ h => h) (Or.inl ⟨by rfl, ?_⟩) hHeld ?_ ?_
          rotate_left
          · rintro w' ⟨s0, s1⟩
            go_simp
            with_reducible rfl
          rotate_left
          · simp only [Act.put, List.setIfInBounds_toArray, List.set_cons_zero, List.set_cons_succ, i64_w, i32_w]
            rfl
          refine one_ (i := 10) (N := some 50) #[true, true, true, true, true, true, true, true, true, true, true, false, false, false, false, false, false, false, false, false] rfl rfl (one_of HT_.out (by kernel_rfl)) (by decide) (fun K hK => ?_)
          refine goes_ Try.func48 (by kernel_rfl) rfl #[.int .i64 x0, .int .i64 (-100000), .int .i64 x1] (by rfl) rfl rfl (by (try simp only [List.map_toArray, List.map_cons, List.map_nil]); first | done | rfl) ?_
          refine (pianolaref10_is.calls x0 (-100000) x1 b1 _ HIS.out).mono ?_
          rintro e wE ⟨rfl, hd⟩
          have hb := hd.below; clear hd
          refine ⟨_, rfl, ?_⟩
          have HBE := Aside0.mk (HBD.out.trans (hb.mono HBD.out.size))
          have hk2 := And.intro (pw_cell_below hb hHeld.1) (pw_cell_below hb hHeld.2)
          have HO' := Aside0.mk (And.intro (HO.out.1.below hb) (And.intro (HO.out.2.1.below hb) HO.out.2.2)); clear HO; have HO := HO'; clear HO'
          clear hb
          refine hK.out _ _ hk2 (fun hHeld => ?_)
          clear hk2
          clear hK K
          refine norm_ (a' := ?_) ?_ ?_
          rotate_left
          · show Act.put _ (some 50) _ = _
            simp only [Act.put, List.setIfInBounds_toArray, List.set_cons_zero, List.set_cons_succ, i64_w, i32_w]
            rfl
          refine take_ (i := 11) (N := some 51) (v := ?_) (a' := ?_) #[true, true, true, true, true, true, true, true, true, true, true, true, false, false, false, false, false, false, false, false] rfl rfl (take_ofW HT_.out HW_.out (by kernel_rfl)) (fun _ _ _ h => h) (Or.inl ⟨by rfl, ?_⟩) hHeld ?_ ?_
          rotate_left
          · rintro w' ⟨s0, s1⟩
            go_simp
            with_reducible rfl
          rotate_left
          · simp only [Act.put, List.setIfInBounds_toArray, List.set_cons_zero, List.set_cons_succ, i64_w, i32_w]
            rfl
          refine take_ (i := 12) (N := some 52) (v := ?_) (a' := ?_) #[true, true, true, true, true, true, true, true, true, true, true, true, true, false, false, false, false, false, false, false] rfl rfl (take_ofW HT_.out HW_.out (by kernel_rfl)) (fun _ _ _ h => h) (Or.inl ⟨by rfl, ?_⟩) hHeld ?_ ?_
          rotate_left
          · rintro w' ⟨s0, s1⟩
            go_simp
            with_reducible rfl
          rotate_left
          · simp only [Act.put, List.setIfInBounds_toArray, List.set_cons_zero, List.set_cons_succ, i64_w, i32_w]
            rfl
          have HBwE := Aside0.mk (HBw.out.trans (HBE.out.mono HBw.out.size))
          cases hb1c : b1 with
          | false =>
            have hwr : (!b1 || decide (100000 < x1)) = true := by rw [hb1c]; rfl
            refine take_ (i := 13) (N := some 53) (v := undef) (a' := ?_) #[true, true, true, true, true, true, true, true, true, true, true, true, true, true, false, false, false, false, false, false] rfl rfl (take_ofW HT_.out HW_.out (by kernel_rfl)) (fun _ _ _ h => h) (Or.inr ⟨by rfl, rfl⟩) hHeld ?_ ?_
            rotate_left
            · simp only [Act.put, List.setIfInBounds_toArray, List.set_cons_zero, List.set_cons_succ, i64_w, i32_w]
              rfl
            refine take_ (i := 14) (N := some 54) (v := undef) (a' := ?_) #[true, true, true, true, true, true, true, true, true, true, true, true, true, true, true, false, false, false, false, false] rfl rfl (take_ofW HT_.out HW_.out (by kernel_rfl)) (fun _ _ _ h => h) (Or.inr ⟨by rfl, rfl⟩) hHeld ?_ ?_
            rotate_left
            · simp only [Act.put, List.setIfInBounds_toArray, List.set_cons_zero, List.set_cons_succ, i64_w, i32_w]
              rfl
            refine take_ (i := 15) (N := some 55) (v := undef) (a' := ?_) #[true, true, true, true, true, true, true, true, true, true, true, true, true, true, true, true, false, false, false, false] rfl rfl (take_ofW HT_.out HW_.out (by kernel_rfl)) (fun _ _ _ h => h) (Or.inr ⟨by rfl, rfl⟩) hHeld ?_ ?_
            rotate_left
            · simp only [Act.put, List.setIfInBounds_toArray, List.set_cons_zero, List.set_cons_succ, i64_w, i32_w]
              rfl
            refine take_ (i := 16) (N := some 56) (v := undef) (a' := ?_) #[true, true, true, true, true, true, true, true, true, true, true, true, true, true, true, true, true, false, false, false] rfl rfl (take_ofW HT_.out HW_.out (by kernel_rfl)) (fun _ _ _ h => h) (Or.inr ⟨by rfl, rfl⟩) hHeld ?_ ?_
            rotate_left
            · simp only [Act.put, List.setIfInBounds_toArray, List.set_cons_zero, List.set_cons_succ, i64_w, i32_w]
              rfl
            refine take_ (i := 17) (N := some 57) (v := undef) (a' := ?_) #[true, true, true, true, true, true, true, true, true, true, true, true, true, true, true, true, true, true, false, false] rfl rfl (take_ofW HT_.out HW_.out (by kernel_rfl)) (fun _ _ _ h => h) (Or.inr ⟨by rfl, rfl⟩) hHeld ?_ ?_
            rotate_left
            · simp only [Act.put, List.setIfInBounds_toArray, List.set_cons_zero, List.set_cons_succ, i64_w, i32_w]
              rfl
            refine take_ (i := 18) (N := some 58) (v := undef) (a' := ?_) #[true, true, true, true, true, true, true, true, true, true, true, true, true, true, true, true, true, true, true, false] rfl rfl (take_ofW HT_.out HW_.out (by kernel_rfl)) (fun _ _ _ h => h) (Or.inr ⟨by rfl, rfl⟩) hHeld ?_ ?_
            rotate_left
            · simp only [Act.put, List.setIfInBounds_toArray, List.set_cons_zero, List.set_cons_succ, i64_w, i32_w]
              rfl
            refine take_ (i := 19) (N := some 59) (v := ?_) (a' := ?_) #[true, true, true, true, true, true, true, true, true, true, true, true, true, true, true, true, true, true, true, true] rfl rfl (take_ofW HT_.out HW_.out (by kernel_rfl)) (fun _ _ _ h => h) (Or.inl ⟨by rfl, ?_⟩) hHeld ?_ ?_
            rotate_left
            · rintro w' ⟨s0, s1⟩
              go_simp
              with_reducible rfl
            rotate_left
            · simp only [Act.put, List.setIfInBounds_toArray, List.set_cons_zero, List.set_cons_succ, i64_w, i32_w]
              rfl
            refine done_ (done_of HT_.out (by kernel_rfl)) ?_
            clear HT_ HW_ hHeld HBD HSS
            have hE3 : all.any wrongB = true := any_first all i HIL.out (by rw [HWB.out, hwr])
            have hh := HH.out
            rw [← HAL.out, hE3, if_pos rfl, if_neg (by decide)] at hh
            obtain ⟨g1, h2⟩ := Prod.mk.inj hh
            obtain ⟨g2, g3⟩ := Prod.mk.inj h2
            clear hh h2
            subst g1 g2 g3
            have hk9 := blk_below2 HBE.out HK2.out
            have HK9 := Aside0.mk hk9
            have s0 : wE.cell? ⟨w.heap.size, 0, none⟩ = some (.int .i64 0) := (blk_cell hk9 0).trans rfl
            have s1 : wE.cell? ⟨w.heap.size, 1, none⟩ = some (.int .i64 0) := (blk_cell hk9 1).trans rfl
            have f0 := blk_frozen hk9 0
            have f1 := blk_frozen hk9 1
            clear hk9
            go_wp2
            refine bodyPost_ret (results_ct rfl _ _ w.heap.size 41 #[.int .i64 0, .int .i64 0] (0, 0) _ rfl (by refine blk_put (cs := #[.int .i64 0, .int .i64 0]) ?_ 1 _ rfl; refine blk_put (cs := #[.int .i64 0, .int .i64 0]) ?_ 0 _ rfl; exact HK9.out) Try.underlying41 rfl (by kernel_rfl)) rfl ?_
            exact ⟨rfl, below_set (below_set HBwE.out (Nat.le_refl _)) (Nat.le_refl _)⟩
          | true =>
           refine take_ (i := 13) (N := some 53) (v := ?_) (a' := ?_) #[true, true, true, true, true, true, true, true, true, true, true, true, true, true, false, false, false, false, false, false] rfl rfl (take_ofW HT_.out HW_.out (by kernel_rfl)) (fun _ _ _ h => h) (Or.inl ⟨by rfl, ?_⟩) hHeld ?_ ?_
           rotate_left
           · rintro w' ⟨s0, s1⟩
             go_simp
             with_reducible rfl
           rotate_left
           · simp only [Act.put, List.setIfInBounds_toArray, List.set_cons_zero, List.set_cons_succ, i64_w, i32_w]
             rfl
           refine take_ (i := 14) (N := some 54) (v := ?_) (a' := ?_) #[true, true, true, true, true, true, true, true, true, true, true, true, true, true, true, false, false, false, false, false] rfl rfl (take_ofW HT_.out HW_.out (by kernel_rfl)) (fun _ _ _ h => h) (Or.inl ⟨by rfl, ?_⟩) hHeld ?_ ?_
           rotate_left
           · rintro w' ⟨s0, s1⟩
             go_simp
             with_reducible rfl
           rotate_left
           · simp only [Act.put, List.setIfInBounds_toArray, List.set_cons_zero, List.set_cons_succ, i64_w, i32_w]
             rfl
           refine take_ (i := 15) (N := some 55) (v := ?_) (a' := ?_) #[true, true, true, true, true, true, true, true, true, true, true, true, true, true, true, true, false, false, false, false] rfl rfl (take_ofW HT_.out HW_.out (by kernel_rfl)) (fun _ _ _ h => h) (Or.inl ⟨by rfl, ?_⟩) hHeld ?_ ?_
           rotate_left
           · rintro w' ⟨s0, s1⟩
             go_simp
             with_reducible rfl
           rotate_left
           · simp only [Act.put, List.setIfInBounds_toArray, List.set_cons_zero, List.set_cons_succ, i64_w, i32_w]
             rfl
           refine take_ (i := 16) (N := some 56) (v := ?_) (a' := ?_) #[true, true, true, true, true, true, true, true, true, true, true, true, true, true, true, true, true, false, false, false] rfl rfl (take_ofW HT_.out HW_.out (by kernel_rfl)) (fun _ _ _ h => h) (Or.inl ⟨by rfl, ?_⟩) hHeld ?_ ?_
           rotate_left
           · rintro w' ⟨s0, s1⟩
             go_simp
             with_reducible rfl
           rotate_left
           · simp only [Act.put, List.setIfInBounds_toArray, List.set_cons_zero, List.set_cons_succ, i64_w, i32_w]
             rfl
           refine take_ (i := 17) (N := some 57) (v := ?_) (a' := ?_) #[true, true, true, true, true, true, true, true, true, true, true, true, true, true, true, true, true, true, false, false] rfl rfl (take_ofW HT_.out HW_.out (by kernel_rfl)) (fun _ _ _ h => h) (Or.inl ⟨by rfl, ?_⟩) hHeld ?_ ?_
           rotate_left
           · rintro w' ⟨s0, s1⟩
             go_simp
             with_reducible rfl
           rotate_left
           · simp only [Act.put, List.setIfInBounds_toArray, List.set_cons_zero, List.set_cons_succ, i64_w, i32_w]
             rfl
           refine take_ (i := 18) (N := some 58) (v := ?_) (a' := ?_) #[true, true, true, true, true, true, true, true, true, true, true, true, true, true, true, true, true, true, true, false] rfl rfl (take_ofW HT_.out HW_.out (by kernel_rfl)) (fun _ _ _ h => h) (Or.inl ⟨by rfl, ?_⟩) hHeld ?_ ?_
           rotate_left
           · rintro w' ⟨s0, s1⟩
             go_simp
             with_reducible rfl
           rotate_left
           · simp only [Act.put, List.setIfInBounds_toArray, List.set_cons_zero, List.set_cons_succ, i64_w, i32_w]
             rfl
           refine take_ (i := 19) (N := some 59) (v := ?_) (a' := ?_) #[true, true, true, true, true, true, true, true, true, true, true, true, true, true, true, true, true, true, true, true] rfl rfl (take_ofW HT_.out HW_.out (by kernel_rfl)) (fun _ _ _ h => h) (Or.inl ⟨by rfl, ?_⟩) hHeld ?_ ?_
           rotate_left
           · rintro w' ⟨s0, s1⟩
             go_simp
             with_reducible rfl
           rotate_left
           · simp only [Act.put, List.setIfInBounds_toArray, List.set_cons_zero, List.set_cons_succ, i64_w, i32_w]
             rfl
           refine done_ (done_of HT_.out (by kernel_rfl)) ?_
           clear HT_ HW_ hHeld HBD HSS
           by_cases hx1 : 100000 < x1
           · have hwr : (!b1 || decide (100000 < x1)) = true := by rw [hb1c, decide_eq_true hx1]; rfl
             have z9 : decide (100000 < x1) = true := decide_eq_true hx1
             have hE3 : all.any wrongB = true := any_first all i HIL.out (by rw [HWB.out, hwr])
             have hh := HH.out
             rw [← HAL.out, hE3, if_pos rfl, if_neg (by decide)] at hh
             obtain ⟨g1, h2⟩ := Prod.mk.inj hh
             obtain ⟨g2, g3⟩ := Prod.mk.inj h2
             clear hh h2
             subst g1 g2 g3
             have hk9 := blk_below2 HBE.out HK2.out
             have HK9 := Aside0.mk hk9
             have s0 : wE.cell? ⟨w.heap.size, 0, none⟩ = some (.int .i64 0) := (blk_cell hk9 0).trans rfl
             have s1 : wE.cell? ⟨w.heap.size, 1, none⟩ = some (.int .i64 0) := (blk_cell hk9 1).trans rfl
             have f0 := blk_frozen hk9 0
             have f1 := blk_frozen hk9 1
             clear hk9
             go_wp2
             refine bodyPost_ret (results_ct rfl _ _ w.heap.size 41 #[.int .i64 0, .int .i64 0] (0, 0) _ rfl (by refine blk_put (cs := #[.int .i64 0, .int .i64 0]) ?_ 1 _ rfl; refine blk_put (cs := #[.int .i64 0, .int .i64 0]) ?_ 0 _ rfl; exact HK9.out) Try.underlying41 rfl (by kernel_rfl)) rfl ?_
             exact ⟨rfl, below_set (below_set HBwE.out (Nat.le_refl _)) (Nat.le_refl _)⟩
           · have hwr : (!b1 || decide (100000 < x1)) = false := by rw [hb1c, decide_eq_false hx1]; rfl
             have z9 : decide (100000 < x1) = false := decide_eq_false hx1
             have HOK := Aside0.mk (show ∀ j : Nat, j < i + 1 → wrongB (rd_T41 all (j : Int)) = false from fun j hj => by
              by_cases e : j = i
              · rw [e, HWB.out, hwr]
              · exact HOKS.out j (by omega))
             clear HOKS HWB hwr
             go_upto_region 12 with fail
             have HBD := Aside0.mk (below_drew1 HBE.out)
             have HSS := Aside0.mk (And.intro (pw_cell_below HBD.out HT0.out.1) (pw_cell_below HBD.out HT0.out.2))
             have hbd : Below wE.heap.size wE wE.drew := below_drew (Below.refl wE.heap.size wE)
             have HO' := Aside0.mk (And.intro (HO.out.1.below hbd) (And.intro (HO.out.2.1.below hbd) HO.out.2.2)); clear HO; have HO := HO'; clear HO'
             have HLL := Aside0.mk (show ((loI all).take i).length ≤ 1000 ∧ ((hiI all).take i).length ≤ 1000 by rw [List.length_take, List.length_take]; have := HLN.out; omega)
             clear hbd HBE HBwE
             refine start_ (n := 18) (S := fun w' => w'.cell? (ad.add (i * 2)) = some (.int .i64 x0) ∧ w'.cell? ⟨(ad.add (i * 2)).block, (ad.add (i * 2)).off + 1, none⟩ = some (.int .i64 x1)) (ds := []) #[false, false, false, false, false, false, false, false, false, false, false, false, false, false, false, false, false, false] (by kernel_rfl) rfl rfl HSS.out (fun hHeld => ?_)
             refine with_tabW wi12_tab wi12_bits (fun HT_ HW_ => ?_)
             generalize wE.drew = wD at HBD HSS HO hHeld ⊢
             refine take_ (i := 0) (N := some 61) (v := ?_) (a' := ?_) #[true, false, false, false, false, false, false, false, false, false, false, false, false, false, false, false, false, false] rfl rfl (take_ofW HT_.out HW_.out (by kernel_rfl)) (fun _ _ _ h => h) (Or.inl ⟨by rfl, ?_⟩) hHeld ?_ ?_
             rotate_left
             · rintro w' ⟨s0, s1⟩
               go_simp
               with_reducible rfl
             rotate_left
             · simp only [Act.put, List.setIfInBounds_toArray, List.set_cons_zero, List.set_cons_succ, i64_w, i32_w]
               rfl
             refine take_ (i := 1) (N := some 62) (v := ?_) (a' := ?_) #[true, true, false, false, false, false, false, false, false, false, false, false, false, false, false, false, false, false] rfl rfl (take_ofW HT_.out HW_.out (by kernel_rfl)) (fun _ _ _ h => h) (Or.inl ⟨by rfl, ?_⟩) hHeld ?_ ?_
             rotate_left
             · rintro w' ⟨s0, s1⟩
               go_simp
               with_reducible rfl
             rotate_left
             · simp only [Act.put, List.setIfInBounds_toArray, List.set_cons_zero, List.set_cons_succ, i64_w, i32_w]
               rfl
             refine take_ (i := 2) (N := some 63) (v := ?_) (a' := ?_) #[true, true, true, false, false, false, false, false, false, false, false, false, false, false, false, false, false, false] rfl rfl (take_ofW HT_.out HW_.out (by kernel_rfl)) (fun _ _ _ h => h) (Or.inl ⟨by rfl, ?_⟩) hHeld ?_ ?_
             rotate_left
             · rintro w' ⟨s0, s1⟩
               go_simp
               with_reducible rfl
             rotate_left
             · simp only [Act.put, List.setIfInBounds_toArray, List.set_cons_zero, List.set_cons_succ, i64_w, i32_w]
               rfl
             refine take_ (i := 3) (N := some 64) (v := ?_) (a' := ?_) #[true, true, true, true, false, false, false, false, false, false, false, false, false, false, false, false, false, false] rfl rfl (take_ofW HT_.out HW_.out (by kernel_rfl)) (fun _ _ _ h => h) (Or.inl ⟨by rfl, ?_⟩) hHeld ?_ ?_
             rotate_left
             · rintro w' ⟨s0, s1⟩
               go_simp
               with_reducible rfl
             rotate_left
             · simp only [Act.put, List.setIfInBounds_toArray, List.set_cons_zero, List.set_cons_succ, i64_w, i32_w]
               rfl
             refine take_ (i := 4) (N := some 65) (v := ?_) (a' := ?_) #[true, true, true, true, true, false, false, false, false, false, false, false, false, false, false, false, false, false] rfl rfl (take_ofW HT_.out HW_.out (by kernel_rfl)) (fun _ _ _ h => h) (Or.inl ⟨by rfl, ?_⟩) hHeld ?_ ?_
             rotate_left
             · rintro w' ⟨s0, s1⟩
               go_simp
               with_reducible rfl
             rotate_left
             · simp only [Act.put, List.setIfInBounds_toArray, List.set_cons_zero, List.set_cons_succ, i64_w, i32_w]
               rfl
             refine take_ (i := 5) (N := some 66) (v := ?_) (a' := ?_) #[true, true, true, true, true, true, false, false, false, false, false, false, false, false, false, false, false, false] rfl rfl (take_ofW HT_.out HW_.out (by kernel_rfl)) (fun _ _ _ h => h) (Or.inl ⟨by rfl, ?_⟩) hHeld ?_ ?_
             rotate_left
             · rintro w' ⟨s0, s1⟩
               go_simp
               with_reducible rfl
             rotate_left
             · simp only [Act.put, List.setIfInBounds_toArray, List.set_cons_zero, List.set_cons_succ, i64_w, i32_w]
               rfl
             refine take_ (i := 8) (N := some 69) (v := ?_) (a' := ?_) #[true, true, true, true, true, true, false, false, true, false, false, false, false, false, false, false, false, false] rfl rfl (take_ofW HT_.out HW_.out (by kernel_rfl)) (fun _ _ _ h => h) (Or.inl ⟨by rfl, ?_⟩) hHeld ?_ ?_
             rotate_left
             · rintro w' ⟨s0, s1⟩
               go_simp
               with_reducible rfl
             rotate_left
             · simp only [Act.put, List.setIfInBounds_toArray, List.set_cons_zero, List.set_cons_succ, i64_w, i32_w]
               rfl
             refine take_ (i := 9) (N := some 70) (v := ?_) (a' := ?_) #[true, true, true, true, true, true, false, false, true, true, false, false, false, false, false, false, false, false] rfl rfl (take_ofW HT_.out HW_.out (by kernel_rfl)) (fun _ _ _ h => h) (Or.inl ⟨by rfl, ?_⟩) hHeld ?_ ?_
             rotate_left
             · rintro w' ⟨s0, s1⟩
               go_simp
               with_reducible rfl
             rotate_left
             · simp only [Act.put, List.setIfInBounds_toArray, List.set_cons_zero, List.set_cons_succ, i64_w, i32_w]
               rfl
             refine take_ (i := 10) (N := some 71) (v := ?_) (a' := ?_) #[true, true, true, true, true, true, false, false, true, true, true, false, false, false, false, false, false, false] rfl rfl (take_ofW HT_.out HW_.out (by kernel_rfl)) (fun _ _ _ h => h) (Or.inl ⟨by rfl, ?_⟩) hHeld ?_ ?_
             rotate_left
             · rintro w' ⟨s0, s1⟩
               go_simp
               with_reducible rfl
             rotate_left
             · simp only [Act.put, List.setIfInBounds_toArray, List.set_cons_zero, List.set_cons_succ, i64_w, i32_w]
               rfl
             refine take_ (i := 11) (N := some 72) (v := ?_) (a' := ?_) #[true, true, true, true, true, true, false, false, true, true, true, true, false, false, false, false, false, false] rfl rfl (take_ofW HT_.out HW_.out (by kernel_rfl)) (fun _ _ _ h => h) (Or.inl ⟨by rfl, ?_⟩) hHeld ?_ ?_
             rotate_left
             · rintro w' ⟨s0, s1⟩
               go_simp
               with_reducible rfl
             rotate_left
             · simp only [Act.put, List.setIfInBounds_toArray, List.set_cons_zero, List.set_cons_succ, i64_w, i32_w]
               rfl
             refine take_ (i := 12) (N := some 73) (v := ?_) (a' := ?_) #[true, true, true, true, true, true, false, false, true, true, true, true, true, false, false, false, false, false] rfl rfl (take_ofW HT_.out HW_.out (by kernel_rfl)) (fun _ _ _ h => h) (Or.inl ⟨by rfl, ?_⟩) hHeld ?_ ?_
             rotate_left
             · rintro w' ⟨s0, s1⟩
               go_simp
               with_reducible rfl
             rotate_left
             · simp only [Act.put, List.setIfInBounds_toArray, List.set_cons_zero, List.set_cons_succ, i64_w, i32_w]
               rfl
             refine take_ (i := 13) (N := some 74) (v := ?_) (a' := ?_) #[true, true, true, true, true, true, false, false, true, true, true, true, true, true, false, false, false, false] rfl rfl (take_ofW HT_.out HW_.out (by kernel_rfl)) (fun _ _ _ h => h) (Or.inl ⟨by rfl, ?_⟩) hHeld ?_ ?_
             rotate_left
             · rintro w' ⟨s0, s1⟩
               go_simp
               with_reducible rfl
             rotate_left
             · simp only [Act.put, List.setIfInBounds_toArray, List.set_cons_zero, List.set_cons_succ, i64_w, i32_w]
               rfl
             have hH0 := Aside0.mk hHeld
             refine two_ (i := 6) (j := 14) (Ni := some 67) (Nj := some 75) #[true, true, true, true, true, true, true, false, true, true, true, true, true, true, false, false, false, false] #[true, true, true, true, true, true, false, false, true, true, true, true, true, true, true, false, false, false] rfl rfl rfl rfl HT_.out (by kernel_rfl) (by decide) (by decide) (fun K hK => ?_) (fun K hK => ?_)
             · refine value_ (v := .slice (some ⟨wD.heap.size, 0, none⟩) 1 1) (w1 := wD.alloc (.cells #[.int .i64 x0] 3)) (by rfl) rfl (by go_simp) ?_
               have hb6 := below_alloc (Below.refl wD.heap.size wD) (.cells #[.int .i64 x0] 3)
               have hbw6 := HBD.out.trans (hb6.mono HBD.out.size)
               refine hK.out _ _ (And.intro (pw_cell_below hbw6 HT0.out.1) (pw_cell_below hbw6 HT0.out.2)) (fun _ => ?_)
               clear hK K
               refine norm_ (a' := ?_) ?_ ?_
               rotate_left
               · show Act.put _ (some 67) _ = _
                 simp only [Act.put, List.setIfInBounds_toArray, List.set_cons_zero, List.set_cons_succ, i64_w, i32_w]
                 rfl
               refine two_ (i := 7) (j := 14) (Ni := some 68) (Nj := some 75) #[true, true, true, true, true, true, true, true, true, true, true, true, true, true, false, false, false, false] #[true, true, true, true, true, true, true, false, true, true, true, true, true, true, true, false, false, false] rfl rfl rfl rfl HT_.out (by kernel_rfl) (by decide) (by decide) (fun K hK => ?_) (fun K hK => ?_)
               · refine step_append_OwnI (by rfl) 22 und22 (.tmp 61) (.tmp 67) rfl w2.heap.size vl ((loI all).take i) [x0] rfl (HO.out.1.below hb6) ⟨wD.heap.size, 0, none⟩ 1 1 rfl rfl (one_cell wD x0 3) (by have := HLL.out; omega) hbw6.size ?_
                 intro v1 w3 hO1 hb1 hg1 ho1
                 have hbw3 := hbw6.trans hb1
                 have hh3 : OwnI w3 w2.heap.size vh ((hiI all).take i) := (HO.out.2.1.below hb6).grown hg1 (fun k hk e => (dist_sym HO.out.2.2) k hk e)
                 have hd3 := dist_app HO.out.2.2 ho1 (fun k hk => by have := (HO.out.2.1.lt k hk).2; rw [size1]; omega)
                 refine hK.out _ _ (And.intro (pw_cell_below hbw3 HT0.out.1) (pw_cell_below hbw3 HT0.out.2)) (fun _ => ?_)
                 clear hK K
                 refine norm_ (a' := ?_) ?_ ?_
                 rotate_left
                 · show Act.put _ (some 68) _ = _
                   simp only [Act.put, List.setIfInBounds_toArray, List.set_cons_zero, List.set_cons_succ, i64_w, i32_w]
                   rfl
                 refine one_ (i := 14) (N := some 75) #[true, true, true, true, true, true, true, true, true, true, true, true, true, true, true, false, false, false] rfl rfl (one_of HT_.out (by kernel_rfl)) (by decide) (fun K hK => ?_)
                 refine value_ (v := .slice (some ⟨w3.heap.size, 0, none⟩) 1 1) (w1 := w3.alloc (.cells #[.int .i64 x1] 3)) (by rfl) rfl (by go_simp) ?_
                 have hb14 := below_alloc (Below.refl w3.heap.size w3) (.cells #[.int .i64 x1] 3)
                 have hbw14 := hbw3.trans (hb14.mono hbw3.size)
                 refine hK.out _ _ (And.intro (pw_cell_below hbw14 HT0.out.1) (pw_cell_below hbw14 HT0.out.2)) (fun _ => ?_)
                 clear hK K
                 refine norm_ (a' := ?_) ?_ ?_
                 rotate_left
                 · show Act.put _ (some 75) _ = _
                   simp only [Act.put, List.setIfInBounds_toArray, List.set_cons_zero, List.set_cons_succ, i64_w, i32_w]
                   rfl
                 refine one_ (i := 15) (N := some 76) #[true, true, true, true, true, true, true, true, true, true, true, true, true, true, true, true, false, false] rfl rfl (one_of HT_.out (by kernel_rfl)) (by decide) (fun K hK => ?_)
                 refine step_append_OwnI (by rfl) 22 und22 (.tmp 69) (.tmp 75) rfl w2.heap.size vh ((hiI all).take i) [x1] rfl (hh3.below hb14) ⟨w3.heap.size, 0, none⟩ 1 1 rfl rfl (one_cell w3 x1 3) (by have := HLL.out; omega) hbw14.size ?_
                 intro v2 w5 hO2 hb2 hg2 ho2
                 have hbw5 := hbw14.trans hb2
                 have hl5 : OwnI w5 w2.heap.size v1 ((loI all).take i ++ [x0]) := (hO1.below hb14).grown hg2 (fun k hk e => hd3 k hk e)
                 have hd5 := dist_sym (dist_app (dist_sym hd3) ho2 (fun k hk => by have := (hO1.lt k hk).2; rw [size1]; omega))
                 have HF := Aside0.mk (And.intro hl5 (And.intro hO2 (And.intro hd5 hbw5)))
                 clear hO1 hb1 hg1 ho1 hh3 hd3 hb14 hO2 hb2 hg2 ho2 hl5 hd5 hb6 hbw6 hbw3 hbw14
                 refine hK.out _ _ (And.intro (pw_cell_below hbw5 HT0.out.1) (pw_cell_below hbw5 HT0.out.2)) (fun _ => ?_)
                 clear hK K
                 refine norm_ (a' := ?_) ?_ ?_
                 rotate_left
                 · show Act.put _ (some 76) _ = _
                   simp only [Act.put, List.setIfInBounds_toArray, List.set_cons_zero, List.set_cons_succ, i64_w, i32_w]
                   rfl
                 clear hbw5
                 refine pure_ (i := 16) (N := some 7) (v := ?_) (a' := ?_) #[true, true, true, true, true, true, true, true, true, true, true, true, true, true, true, true, true, false] rfl rfl (any_of HT_.out (by kernel_rfl)) (fun _ _ _ h => h) (Or.inl ⟨by rfl, ?_⟩) ?_ ?_
                 rotate_left
                 · intro w'
                   go_simp
                   with_reducible rfl
                 rotate_left
                 · simp only [Act.put, List.setIfInBounds_toArray, List.set_cons_zero, List.set_cons_succ, i64_w, i32_w]
                   rfl
                 refine pure_ (i := 17) (N := some 8) (v := ?_) (a' := ?_) #[true, true, true, true, true, true, true, true, true, true, true, true, true, true, true, true, true, true] rfl rfl (any_of HT_.out (by kernel_rfl)) (fun _ _ _ h => h) (Or.inl ⟨by rfl, ?_⟩) ?_ ?_
                 rotate_left
                 · intro w'
                   go_simp
                   with_reducible rfl
                 rotate_left
                 · simp only [Act.put, List.setIfInBounds_toArray, List.set_cons_zero, List.set_cons_succ, i64_w, i32_w]
                   rfl
                 refine done_ (done_of HT_.out (by kernel_rfl)) ?_
                 clear HT_ HW_ hHeld hH0
                 go_wp2
                 refine ⟨⟨i + 1, v1, v2, rfl, rfl, (by first | exact congrArg _ (wrap_up i (by have := HLN.out; omega)) | rfl), ⟨n1⟩, ⟨HOK.out⟩, ⟨HE1.out ▸ HF.out.1⟩, ⟨HE2.out ▸ HF.out.2.1⟩, ⟨HF.out.2.2.1⟩, ⟨HF.out.2.2.2⟩⟩, ?_⟩
                 first | (rw [wrap_up i (by have := HLN.out; omega)]; exact meas_up NN i n1) | exact meas_up NN i n1
               · refine value_ (v := .slice (some ⟨(wD.alloc (.cells #[.int .i64 x0] 3)).heap.size, 0, none⟩) 1 1) (w1 := (wD.alloc (.cells #[.int .i64 x0] 3)).alloc (.cells #[.int .i64 x1] 3)) (by rfl) rfl (by first | (go_simp; done) | (go_simp; rfl)) ?_
                 have hb14 := below_alloc (Below.refl (wD.alloc (.cells #[.int .i64 x0] 3)).heap.size _) (.cells #[.int .i64 x1] 3)
                 have hbw14 := hbw6.trans (hb14.mono hbw6.size)
                 have hc6 := fun j u hu => pw_cell_below hb14 (one_cell wD x0 3 j u hu)
                 have hc14 := one_cell (wD.alloc (.cells #[.int .i64 x0] 3)) x1 3
                 have hx := (HO.out.1.below hb6).below hb14
                 have hy := (HO.out.2.1.below hb6).below hb14
                 refine hK.out _ _ (And.intro (pw_cell_below hbw14 HT0.out.1) (pw_cell_below hbw14 HT0.out.2)) (fun _ => ?_)
                 clear hK K
                 refine norm_ (a' := ?_) ?_ ?_
                 rotate_left
                 · show Act.put _ (some 75) _ = _
                   simp only [Act.put, List.setIfInBounds_toArray, List.set_cons_zero, List.set_cons_succ, i64_w, i32_w]
                   rfl
                 refine one_ (i := 7) (N := some 68) #[true, true, true, true, true, true, true, true, true, true, true, true, true, true, true, false, false, false] rfl rfl (one_of HT_.out (by kernel_rfl)) (by decide) (fun K hK => ?_)
                 refine step_append_OwnI (by rfl) 22 und22 (.tmp 61) (.tmp 67) rfl w2.heap.size vl ((loI all).take i) [x0] rfl hx ⟨wD.heap.size, 0, none⟩ 1 1 rfl rfl hc6 (by have := HLL.out; omega) hbw14.size ?_
                 intro v1 w3 hO1 hb1 hg1 ho1
                 have hbw3 := hbw14.trans hb1
                 have hh3 : OwnI w3 w2.heap.size vh ((hiI all).take i) := hy.grown hg1 (fun k hk e => (dist_sym HO.out.2.2) k hk e)
                 have hd3 := dist_app HO.out.2.2 ho1 (fun k hk => by have := (HO.out.2.1.lt k hk).2; rw [size1, size1]; omega)
                 have hc3 := fun j u hu => cell_grown hg1 (hc14 j u hu) (fun e => by rw [add_blk] at e; have := (HO.out.1.lt _ e.symm).2; simp only [size1] at this; omega)
                 refine hK.out _ _ (And.intro (pw_cell_below hbw3 HT0.out.1) (pw_cell_below hbw3 HT0.out.2)) (fun _ => ?_)
                 clear hK K
                 refine norm_ (a' := ?_) ?_ ?_
                 rotate_left
                 · show Act.put _ (some 68) _ = _
                   simp only [Act.put, List.setIfInBounds_toArray, List.set_cons_zero, List.set_cons_succ, i64_w, i32_w]
                   rfl
                 refine one_ (i := 15) (N := some 76) #[true, true, true, true, true, true, true, true, true, true, true, true, true, true, true, true, false, false] rfl rfl (one_of HT_.out (by kernel_rfl)) (by decide) (fun K hK => ?_)
                 refine step_append_OwnI (by rfl) 22 und22 (.tmp 69) (.tmp 75) rfl w2.heap.size vh ((hiI all).take i) [x1] rfl hh3 ⟨(wD.alloc (.cells #[.int .i64 x0] 3)).heap.size, 0, none⟩ 1 1 rfl rfl hc3 (by have := HLL.out; omega) hbw3.size ?_
                 intro v2 w5 hO2 hb2 hg2 ho2
                 have hbw5 := hbw3.trans hb2
                 have hl5 : OwnI w5 w2.heap.size v1 ((loI all).take i ++ [x0]) := hO1.grown hg2 (fun k hk e => hd3 k hk e)
                 have hd5 := dist_sym (dist_app (dist_sym hd3) ho2 (fun k hk => (hO1.lt k hk).2))
                 have HF := Aside0.mk (And.intro hl5 (And.intro hO2 (And.intro hd5 hbw5)))
                 clear hO1 hb1 hg1 ho1 hh3 hd3 hb14 hO2 hb2 hg2 ho2 hl5 hd5 hb6 hbw6 hbw3 hbw14 hc6 hc14 hx hy hc3
                 refine hK.out _ _ (And.intro (pw_cell_below hbw5 HT0.out.1) (pw_cell_below hbw5 HT0.out.2)) (fun _ => ?_)
                 clear hK K
                 refine norm_ (a' := ?_) ?_ ?_
                 rotate_left
                 · show Act.put _ (some 76) _ = _
                   simp only [Act.put, List.setIfInBounds_toArray, List.set_cons_zero, List.set_cons_succ, i64_w, i32_w]
                   rfl
                 clear hbw5
                 refine pure_ (i := 16) (N := some 7) (v := ?_) (a' := ?_) #[true, true, true, true, true, true, true, true, true, true, true, true, true, true, true, true, true, false] rfl rfl (any_of HT_.out (by kernel_rfl)) (fun _ _ _ h => h) (Or.inl ⟨by rfl, ?_⟩) ?_ ?_
                 rotate_left
                 · intro w'
                   go_simp
                   with_reducible rfl
                 rotate_left
                 · simp only [Act.put, List.setIfInBounds_toArray, List.set_cons_zero, List.set_cons_succ, i64_w, i32_w]
                   rfl
                 refine pure_ (i := 17) (N := some 8) (v := ?_) (a' := ?_) #[true, true, true, true, true, true, true, true, true, true, true, true, true, true, true, true, true, true] rfl rfl (any_of HT_.out (by kernel_rfl)) (fun _ _ _ h => h) (Or.inl ⟨by rfl, ?_⟩) ?_ ?_
                 rotate_left
                 · intro w'
                   go_simp
                   with_reducible rfl
                 rotate_left
                 · simp only [Act.put, List.setIfInBounds_toArray, List.set_cons_zero, List.set_cons_succ, i64_w, i32_w]
                   rfl
                 refine done_ (done_of HT_.out (by kernel_rfl)) ?_
                 clear HT_ HW_ hHeld hH0
                 go_wp2
                 refine ⟨⟨i + 1, v1, v2, rfl, rfl, (by first | exact congrArg _ (wrap_up i (by have := HLN.out; omega)) | rfl), ⟨n1⟩, ⟨HOK.out⟩, ⟨HE1.out ▸ HF.out.1⟩, ⟨HE2.out ▸ HF.out.2.1⟩, ⟨HF.out.2.2.1⟩, ⟨HF.out.2.2.2⟩⟩, ?_⟩
                 first | (rw [wrap_up i (by have := HLN.out; omega)]; exact meas_up NN i n1) | exact meas_up NN i n1
             · refine value_ (v := .slice (some ⟨wD.heap.size, 0, none⟩) 1 1) (w1 := wD.alloc (.cells #[.int .i64 x1] 3)) (by rfl) rfl (by go_simp) ?_
               have hb14 := below_alloc (Below.refl wD.heap.size wD) (.cells #[.int .i64 x1] 3)
               have hbw14 := HBD.out.trans (hb14.mono HBD.out.size)
               have hc14 := one_cell wD x1 3
               refine hK.out _ _ (And.intro (pw_cell_below hbw14 HT0.out.1) (pw_cell_below hbw14 HT0.out.2)) (fun _ => ?_)
               clear hK K
               refine norm_ (a' := ?_) ?_ ?_
               rotate_left
               · show Act.put _ (some 75) _ = _
                 simp only [Act.put, List.setIfInBounds_toArray, List.set_cons_zero, List.set_cons_succ, i64_w, i32_w]
                 rfl
               refine one_ (i := 6) (N := some 67) #[true, true, true, true, true, true, true, false, true, true, true, true, true, true, true, false, false, false] rfl rfl (one_of HT_.out (by kernel_rfl)) (by decide) (fun K hK => ?_)
               refine value_ (v := .slice (some ⟨(wD.alloc (.cells #[.int .i64 x1] 3)).heap.size, 0, none⟩) 1 1) (w1 := (wD.alloc (.cells #[.int .i64 x1] 3)).alloc (.cells #[.int .i64 x0] 3)) (by rfl) rfl (by first | (go_simp; done) | (go_simp; rfl)) ?_
               have hb6 := below_alloc (Below.refl (wD.alloc (.cells #[.int .i64 x1] 3)).heap.size _) (.cells #[.int .i64 x0] 3)
               have hbw6 := hbw14.trans (hb6.mono hbw14.size)
               have hc6 := one_cell (wD.alloc (.cells #[.int .i64 x1] 3)) x0 3
               have hc14b := fun j u hu => pw_cell_below hb6 (hc14 j u hu)
               have hx := (HO.out.1.below hb14).below hb6
               have hy := (HO.out.2.1.below hb14).below hb6
               refine hK.out _ _ (And.intro (pw_cell_below hbw6 HT0.out.1) (pw_cell_below hbw6 HT0.out.2)) (fun _ => ?_)
               clear hK K
               refine norm_ (a' := ?_) ?_ ?_
               rotate_left
               · show Act.put _ (some 67) _ = _
                 simp only [Act.put, List.setIfInBounds_toArray, List.set_cons_zero, List.set_cons_succ, i64_w, i32_w]
                 rfl
               refine one_ (i := 7) (N := some 68) #[true, true, true, true, true, true, true, true, true, true, true, true, true, true, true, false, false, false] rfl rfl (one_of HT_.out (by kernel_rfl)) (by decide) (fun K hK => ?_)
               refine step_append_OwnI (by rfl) 22 und22 (.tmp 61) (.tmp 67) rfl w2.heap.size vl ((loI all).take i) [x0] rfl hx ⟨(wD.alloc (.cells #[.int .i64 x1] 3)).heap.size, 0, none⟩ 1 1 rfl rfl hc6 (by have := HLL.out; omega) hbw6.size ?_
               intro v1 w3 hO1 hb1 hg1 ho1
               have hbw3 := hbw6.trans hb1
               have hh3 : OwnI w3 w2.heap.size vh ((hiI all).take i) := hy.grown hg1 (fun k hk e => (dist_sym HO.out.2.2) k hk e)
               have hd3 := dist_app HO.out.2.2 ho1 (fun k hk => by have := (HO.out.2.1.lt k hk).2; rw [size1, size1]; omega)
               have hc3 := fun j u hu => cell_grown hg1 (hc14b j u hu) (fun e => by rw [add_blk] at e; have := (HO.out.1.lt _ e.symm).2; simp only [size1] at this; omega)
               refine hK.out _ _ (And.intro (pw_cell_below hbw3 HT0.out.1) (pw_cell_below hbw3 HT0.out.2)) (fun _ => ?_)
               clear hK K
               refine norm_ (a' := ?_) ?_ ?_
               rotate_left
               · show Act.put _ (some 68) _ = _
                 simp only [Act.put, List.setIfInBounds_toArray, List.set_cons_zero, List.set_cons_succ, i64_w, i32_w]
                 rfl
               refine one_ (i := 15) (N := some 76) #[true, true, true, true, true, true, true, true, true, true, true, true, true, true, true, true, false, false] rfl rfl (one_of HT_.out (by kernel_rfl)) (by decide) (fun K hK => ?_)
               refine step_append_OwnI (by rfl) 22 und22 (.tmp 69) (.tmp 75) rfl w2.heap.size vh ((hiI all).take i) [x1] rfl hh3 ⟨wD.heap.size, 0, none⟩ 1 1 rfl rfl hc3 (by have := HLL.out; omega) hbw3.size ?_
               intro v2 w5 hO2 hb2 hg2 ho2
               have hbw5 := hbw3.trans hb2
               have hl5 : OwnI w5 w2.heap.size v1 ((loI all).take i ++ [x0]) := hO1.grown hg2 (fun k hk e => hd3 k hk e)
               have hd5 := dist_sym (dist_app (dist_sym hd3) ho2 (fun k hk => (hO1.lt k hk).2))
               have HF := Aside0.mk (And.intro hl5 (And.intro hO2 (And.intro hd5 hbw5)))
               clear hO1 hb1 hg1 ho1 hh3 hd3 hb14 hO2 hb2 hg2 ho2 hl5 hd5 hb6 hbw6 hbw3 hbw14 hc6 hc14 hc14b hx hy hc3
               refine hK.out _ _ (And.intro (pw_cell_below hbw5 HT0.out.1) (pw_cell_below hbw5 HT0.out.2)) (fun _ => ?_)
               clear hK K
               refine norm_ (a' := ?_) ?_ ?_
               rotate_left
               · show Act.put _ (some 76) _ = _
                 simp only [Act.put, List.setIfInBounds_toArray, List.set_cons_zero, List.set_cons_succ, i64_w, i32_w]
                 rfl
               clear hbw5
               refine pure_ (i := 16) (N := some 7) (v := ?_) (a' := ?_) #[true, true, true, true, true, true, true, true, true, true, true, true, true, true, true, true, true, false] rfl rfl (any_of HT_.out (by kernel_rfl)) (fun _ _ _ h => h) (Or.inl ⟨by rfl, ?_⟩) ?_ ?_
               rotate_left
               · intro w'
                 go_simp
                 with_reducible rfl
               rotate_left
               · simp only [Act.put, List.setIfInBounds_toArray, List.set_cons_zero, List.set_cons_succ, i64_w, i32_w]
                 rfl
               refine pure_ (i := 17) (N := some 8) (v := ?_) (a' := ?_) #[true, true, true, true, true, true, true, true, true, true, true, true, true, true, true, true, true, true] rfl rfl (any_of HT_.out (by kernel_rfl)) (fun _ _ _ h => h) (Or.inl ⟨by rfl, ?_⟩) ?_ ?_
               rotate_left
               · intro w'
                 go_simp
                 with_reducible rfl
               rotate_left
               · simp only [Act.put, List.setIfInBounds_toArray, List.set_cons_zero, List.set_cons_succ, i64_w, i32_w]
                 rfl
               refine done_ (done_of HT_.out (by kernel_rfl)) ?_
               clear HT_ HW_ hHeld hH0
               go_wp2
               refine ⟨⟨i + 1, v1, v2, rfl, rfl, (by first | exact congrArg _ (wrap_up i (by have := HLN.out; omega)) | rfl), ⟨n1⟩, ⟨HOK.out⟩, ⟨HE1.out ▸ HF.out.1⟩, ⟨HE2.out ▸ HF.out.2.1⟩, ⟨HF.out.2.2.1⟩, ⟨HF.out.2.2.2⟩⟩, ?_⟩
               first | (rw [wrap_up i (by have := HLN.out; omega)]; exact meas_up NN i n1) | exact meas_up NN i n1
        · obtain rfl : NN = i := by have := HI.out; omega
          have hd : decide ((NN : Int) < (NN : Int)) = false := decide_eq_false (by omega)
          clear hj
          have hE3 : all.any wrongB = false := any_none all (fun j hj => HOKS.out j (by rw [HLN.out.1]; exact hj))
          have hh := HH.out
          have e0 : (if false = true then (3 : Int) else 0) = 0 := by decide
          rw [← HAL.out, hE3, e0, if_pos rfl] at hh
          obtain ⟨g1, h2⟩ := Prod.mk.inj hh
          obtain ⟨g2, g3⟩ := Prod.mk.inj h2
          clear e0
          have elo : (loI all).take NN = loI a ++ loI b := by
            rw [HLN.out.1, show all.length = (loI all).length by unfold loI; rw [List.length_map], List.take_length, HAL.out]
            unfold loI
            rw [List.map_append]
          have ehi : (hiI all).take NN = hiI a ++ hiI b := by
            rw [HLN.out.1, show all.length = (hiI all).length by unfold hiI; rw [List.length_map], List.take_length, HAL.out]
            unfold hiI
            rw [List.map_append]
          have hol := HOL.out
          have hoh := HOH.out
          rw [elo] at hol
          rw [ehi] at hoh
          have l1 : (loI a ++ loI b).length = NN := by unfold loI; rw [List.length_append, List.length_map, List.length_map]; exact HLN.out.2.1.symm
          have l2 : (hiI a ++ hiI b).length = NN := by unfold hiI; rw [List.length_append, List.length_map, List.length_map]; exact HLN.out.2.1.symm
          obtain ⟨gl, capl, rfl, _, hRl, _⟩ := R2.of_own hol (fun e => by rw [e] at l1; have := HLN.out; have := HL.out; simp at l1; omega) (by have := HLN.out; omega)
          obtain ⟨gh, caph, rfl, _, hRh, _⟩ := R2.of_own hoh (fun e => by rw [e] at l2; have := HLN.out; have := HL.out; simp at l2; omega) (by have := HLN.out; omega)
          rw [l1, l2]
          have cl1 : capl ≥ NN := by rw [← l1]; exact hRl.le.1
          have cl2 : caph ≥ NN := by rw [← l2]; exact hRh.le.1
          have HCL := Aside0.mk hRl.C
          have HCH := Aside0.mk hRh.C
          obtain ⟨n, hn⟩ : ∃ n, n = a.length := ⟨_, rfl⟩
          have hnN : n ≤ NN := by have := HLN.out; omega
          have hn1 : n ≤ capl := by omega
          have hn2 : n ≤ caph := by omega
          have hn3 : n < capl := by have := HLN.out; have := HL.out; omega
          have hn4 : n < caph := by have := HLN.out; have := HL.out; omega
          have hn5 : ¬ capl = n := by omega
          have hn6 : ¬ caph = n := by omega
          have hn7 : ¬ n = capl := by omega
          have hn8 : ¬ n = caph := by omega
          have HNL := Aside0.mk hn
          have HG := Aside0.mk (And.intro g1 (And.intro g2 g3))
          have la : (loI a).length = a.length ∧ (hiI a).length = a.length ∧ (loI b).length = b.length ∧ (hiI b).length = b.length := ⟨by unfold loI; simp, by unfold hiI; simp, by unfold loI; simp, by unfold hiI; simp⟩
          have hb1 : pianolaref10_beats.f 2000 (hiI a) (loI b) = some r1 := by rw [rbeats_f _ _ 2000 (by have := HL.out; omega) (by have := HL.out; omega) (by omega), g1]
          have hb2 : pianolaref10_beats.f 2000 (loI a) (hiI b) = some r2 := by rw [rbeats_f _ _ 2000 (by have := HL.out; omega) (by have := HL.out; omega) (by omega), g2]
          have HN1 := Aside0.mk (show n = (hiI a).length ∧ NN - n = (loI b).length ∧ (hiI a).length ≤ caph ∧ n = (loI a).length ∧ (loI b).length ≤ capl - n ∧ pianolaref10_beats.f 2000 (hiI a) (loI b) = some r1 ∧ True from ⟨by omega, by have := HLN.out; omega, by omega, by omega, by have := HLN.out; omega, hb1, trivial⟩)
          have HN2 := Aside0.mk (show n = (loI a).length ∧ NN - n = (hiI b).length ∧ (loI a).length ≤ capl ∧ n = (hiI a).length ∧ (hiI b).length ≤ caph - n ∧ pianolaref10_beats.f 2000 (loI a) (hiI b) = some r2 ∧ True from ⟨by omega, by have := HLN.out; omega, by omega, by omega, by have := HLN.out; omega, hb2, trivial⟩)
          clear la hb1 hb2
          clear hh h2 g1 g2 g3 elo ehi hol hoh l1 l2 hRl hRh HOL HOH HDI HOKS hE3
          rw [← hn]
          clear hn
          go_upto_region 14 with fail
          have hbd : Below wr.heap.size wr wr.drew := below_drew (Below.refl wr.heap.size wr)
          have HBD := Aside0.mk (below_drew1 HBr.out)
          have HCL' := Aside0.mk (Kd.C_below HCL.out hbd)
          have HCH' := Aside0.mk (Kd.C_below HCH.out hbd)
          clear hbd HCL HCH HBr
          refine start_ (n := 17) (S := fun _ => True) (ds := [15]) #[false, false, false, false, false, false, false, false, false, false, false, false, false, false, false, false, false] (by kernel_rfl) rfl rfl trivial (fun hHeld => ?_)
          refine with_tabW wi14_tab wi14_bits (fun HT_ HW_ => ?_)
          generalize wr.drew = wD at HBD HCL' HCH' hHeld ⊢
          refine take_ (i := 0) (N := some 79) (v := ?_) (a' := ?_) #[true, false, false, false, false, false, false, false, false, false, false, false, false, false, false, false, false] rfl rfl (take_ofW HT_.out HW_.out (by kernel_rfl)) (fun _ _ _ h => h) (Or.inl ⟨by rfl, ?_⟩) hHeld ?_ ?_
          rotate_left
          · rintro w' _
            go_simp
            with_reducible rfl
          rotate_left
          · simp only [Act.put, List.setIfInBounds_toArray, List.set_cons_zero, List.set_cons_succ, i64_w, i32_w]
            rfl
          refine take_ (i := 1) (N := some 80) (v := ?_) (a' := ?_) #[true, true, false, false, false, false, false, false, false, false, false, false, false, false, false, false, false] rfl rfl (take_ofW HT_.out HW_.out (by kernel_rfl)) (fun _ _ _ h => h) (Or.inl ⟨by rfl, ?_⟩) hHeld ?_ ?_
          rotate_left
          · rintro w' _
            go_simp
            with_reducible rfl
          rotate_left
          · simp only [Act.put, List.setIfInBounds_toArray, List.set_cons_zero, List.set_cons_succ, i64_w, i32_w]
            rfl
          refine take_ (i := 2) (N := some 81) (v := ?_) (a' := ?_) #[true, true, true, false, false, false, false, false, false, false, false, false, false, false, false, false, false] rfl rfl (take_ofW HT_.out HW_.out (by kernel_rfl)) (fun _ _ _ h => h) (Or.inl ⟨by rfl, ?_⟩) hHeld ?_ ?_
          rotate_left
          · rintro w' _
            go_simp
            with_reducible rfl
          rotate_left
          · simp only [Act.put, List.setIfInBounds_toArray, List.set_cons_zero, List.set_cons_succ, i64_w, i32_w]
            rfl
          refine take_ (i := 3) (N := some 82) (v := ?_) (a' := ?_) #[true, true, true, true, false, false, false, false, false, false, false, false, false, false, false, false, false] rfl rfl (take_ofW HT_.out HW_.out (by kernel_rfl)) (fun _ _ _ h => h) (Or.inl ⟨by rfl, ?_⟩) hHeld ?_ ?_
          rotate_left
          · rintro w' _
            go_simp
            with_reducible rfl
          rotate_left
          · simp only [Act.put, List.setIfInBounds_toArray, List.set_cons_zero, List.set_cons_succ, i64_w, i32_w]
            rfl
          refine take_ (i := 4) (N := some 83) (v := ?_) (a' := ?_) #[true, true, true, true, true, false, false, false, false, false, false, false, false, false, false, false, false] rfl rfl (take_ofW HT_.out HW_.out (by kernel_rfl)) (fun _ _ _ h => h) (Or.inl ⟨by rfl, ?_⟩) hHeld ?_ ?_
          rotate_left
          · rintro w' _
            go_simp
            with_reducible rfl
          rotate_left
          · simp only [Act.put, List.setIfInBounds_toArray, List.set_cons_zero, List.set_cons_succ, i64_w, i32_w]
            rfl
          refine take_ (i := 5) (N := some 84) (v := ?_) (a' := ?_) #[true, true, true, true, true, true, false, false, false, false, false, false, false, false, false, false, false] rfl rfl (take_ofW HT_.out HW_.out (by kernel_rfl)) (fun _ _ _ h => h) (Or.inl ⟨by rfl, ?_⟩) hHeld ?_ ?_
          rotate_left
          · rintro w' _
            go_simp
            with_reducible rfl
          rotate_left
          · simp only [Act.put, List.setIfInBounds_toArray, List.set_cons_zero, List.set_cons_succ, i64_w, i32_w]
            rfl
          refine take_ (i := 7) (N := some 86) (v := ?_) (a' := ?_) #[true, true, true, true, true, true, false, true, false, false, false, false, false, false, false, false, false] rfl rfl (take_ofW HT_.out HW_.out (by kernel_rfl)) (fun _ _ _ h => h) (Or.inl ⟨by rfl, ?_⟩) hHeld ?_ ?_
          rotate_left
          · rintro w' _
            go_simp
            with_reducible rfl
          rotate_left
          · simp only [Act.put, List.setIfInBounds_toArray, List.set_cons_zero, List.set_cons_succ, i64_w, i32_w]
            rfl
          refine take_ (i := 8) (N := some 87) (v := ?_) (a' := ?_) #[true, true, true, true, true, true, false, true, true, false, false, false, false, false, false, false, false] rfl rfl (take_ofW HT_.out HW_.out (by kernel_rfl)) (fun _ _ _ h => h) (Or.inl ⟨by rfl, ?_⟩) hHeld ?_ ?_
          rotate_left
          · rintro w' _
            go_simp
            with_reducible rfl
          rotate_left
          · simp only [Act.put, List.setIfInBounds_toArray, List.set_cons_zero, List.set_cons_succ, i64_w, i32_w]
            rfl
          refine take_ (i := 9) (N := some 88) (v := ?_) (a' := ?_) #[true, true, true, true, true, true, false, true, true, true, false, false, false, false, false, false, false] rfl rfl (take_ofW HT_.out HW_.out (by kernel_rfl)) (fun _ _ _ h => h) (Or.inl ⟨by rfl, ?_⟩) hHeld ?_ ?_
          rotate_left
          · rintro w' _
            go_simp
            with_reducible rfl
          rotate_left
          · simp only [Act.put, List.setIfInBounds_toArray, List.set_cons_zero, List.set_cons_succ, i64_w, i32_w]
            rfl
          refine take_ (i := 10) (N := some 89) (v := ?_) (a' := ?_) #[true, true, true, true, true, true, false, true, true, true, true, false, false, false, false, false, false] rfl rfl (take_ofW HT_.out HW_.out (by kernel_rfl)) (fun _ _ _ h => h) (Or.inl ⟨by rfl, ?_⟩) hHeld ?_ ?_
          rotate_left
          · rintro w' _
            go_simp
            with_reducible rfl
          rotate_left
          · simp only [Act.put, List.setIfInBounds_toArray, List.set_cons_zero, List.set_cons_succ, i64_w, i32_w]
            rfl
          refine take_ (i := 11) (N := some 90) (v := ?_) (a' := ?_) #[true, true, true, true, true, true, false, true, true, true, true, true, false, false, false, false, false] rfl rfl (take_ofW HT_.out HW_.out (by kernel_rfl)) (fun _ _ _ h => h) (Or.inl ⟨by rfl, ?_⟩) hHeld ?_ ?_
          rotate_left
          · rintro w' _
            go_simp
            with_reducible rfl
          rotate_left
          · simp only [Act.put, List.setIfInBounds_toArray, List.set_cons_zero, List.set_cons_succ, i64_w, i32_w]
            rfl
          refine take_ (i := 12) (N := some 91) (v := ?_) (a' := ?_) #[true, true, true, true, true, true, false, true, true, true, true, true, true, false, false, false, false] rfl rfl (take_ofW HT_.out HW_.out (by kernel_rfl)) (fun _ _ _ h => h) (Or.inl ⟨by rfl, ?_⟩) hHeld ?_ ?_
          rotate_left
          · rintro w' _
            go_simp
            with_reducible rfl
          rotate_left
          · simp only [Act.put, List.setIfInBounds_toArray, List.set_cons_zero, List.set_cons_succ, i64_w, i32_w]
            rfl
          refine one_ (i := 6) (N := some 85) #[true, true, true, true, true, true, true, true, true, true, true, true, true, false, false, false, false] rfl rfl (one_of HT_.out (by kernel_rfl)) (by decide) (fun K hK => ?_)
          refine goes_ Try.func47 (by kernel_rfl) rfl #[.slice (some ⟨gh, 0, none⟩) n caph, .slice (some ⟨gl, n, none⟩) (NN - n) (capl - n)] (by rfl) rfl rfl (by (try simp only [List.map_toArray, List.map_cons, List.map_nil]); first | done | rfl) ?_
          refine (rbeats_n _ _ _ (hiI a) _ _ _ (loI b) r1 _ HN1.out.1 HN1.out.2.1 (C_left HCH'.out) HN1.out.2.2.1 (C_right HCL'.out HN1.out.2.2.2.1) HN1.out.2.2.2.2.1 HN1.out.2.2.2.2.2.1).mono ?_
          rintro e wE ⟨rfl, hd⟩
          have hb := hd.below; clear hd
          refine ⟨_, rfl, ?_⟩
          have HBE := Aside0.mk (below_then HBD.out HBD.out.size hb)
          have HCL2 := Aside0.mk (Kd.C_below HCL'.out hb)
          have HCH2 := Aside0.mk (Kd.C_below HCH'.out hb)
          clear hb
          refine hK.out _ _ trivial (fun _ => ?_)
          clear hK K
          refine norm_ (a' := ?_) ?_ ?_
          rotate_left
          · show Act.put _ (some 85) _ = _
            simp only [Act.put, List.setIfInBounds_toArray, List.set_cons_zero, List.set_cons_succ, i64_w, i32_w]
            rfl
          refine one_ (i := 13) (N := some 92) #[true, true, true, true, true, true, true, true, true, true, true, true, true, true, false, false, false] rfl rfl (one_of HT_.out (by kernel_rfl)) (by decide) (fun K hK => ?_)
          refine goes_ Try.func47 (by kernel_rfl) rfl #[.slice (some ⟨gl, 0, none⟩) n capl, .slice (some ⟨gh, n, none⟩) (NN - n) (caph - n)] (by rfl) rfl rfl (by (try simp only [List.map_toArray, List.map_cons, List.map_nil]); first | done | rfl) ?_
          refine (rbeats_n _ _ _ (loI a) _ _ _ (hiI b) r2 _ HN2.out.1 HN2.out.2.1 (C_left HCL2.out) HN2.out.2.2.1 (C_right HCH2.out HN2.out.2.2.2.1) HN2.out.2.2.2.2.1 HN2.out.2.2.2.2.2.1).mono ?_
          rintro e wF ⟨rfl, hd⟩
          have hb := hd.below; clear hd
          refine ⟨_, rfl, ?_⟩
          have HBF := Aside0.mk (below_then HBE.out HBE.out.size hb)
          clear hb
          refine hK.out _ _ trivial (fun _ => ?_)
          clear hK K
          refine norm_ (a' := ?_) ?_ ?_
          rotate_left
          · show Act.put _ (some 92) _ = _
            simp only [Act.put, List.setIfInBounds_toArray, List.set_cons_zero, List.set_cons_succ, i64_w, i32_w]
            rfl
          refine take_ (i := 14) (N := some 93) (v := ?_) (a' := ?_) #[true, true, true, true, true, true, true, true, true, true, true, true, true, true, true, false, false] rfl rfl (take_ofW HT_.out HW_.out (by kernel_rfl)) (fun _ _ _ h => h) (Or.inl ⟨by rfl, ?_⟩) hHeld ?_ ?_
          rotate_left
          · rintro w' _
            go_simp
            with_reducible rfl
          rotate_left
          · simp only [Act.put, List.setIfInBounds_toArray, List.set_cons_zero, List.set_cons_succ, i64_w, i32_w]
            rfl
          have HBwF := Aside0.mk (HBw.out.trans (HBF.out.mono HBw.out.size))
          have hk9 := blk_below2 HBF.out HK2.out
          have HK9 := Aside0.mk hk9
          have s0 : wF.cell? ⟨w.heap.size, 0, none⟩ = some (.int .i64 0) := (blk_cell hk9 0).trans rfl
          have s1 : wF.cell? ⟨w.heap.size, 1, none⟩ = some (.int .i64 0) := (blk_cell hk9 1).trans rfl
          have f0 := blk_frozen hk9 0
          have f1 := blk_frozen hk9 1
          clear hk9
          refine last_ (i := 15) (N := none) #[true, true, true, true, true, true, true, true, true, true, true, true, true, true, true, true, false] rfl rfl (one_of HT_.out (by kernel_rfl)) (by decide) (fun K hK => ?_)
          refine store_step (by rfl) rfl (w1 := (wF.setCell ⟨w.heap.size, 0, none⟩ (.int .i64 r1)).setCell ⟨w.heap.size, 1, none⟩ (.int .i64 r2)) ?hr ?_
          (case hr => first | (go_simp; done) | (go_simp; rfl))
          refine hK.out _ _ ?_
          clear hK K
          refine pure_ (i := 16) (N := some 5) (v := ?_) (a' := ?_) #[true, true, true, true, true, true, true, true, true, true, true, true, true, true, true, true, true] rfl rfl (any_of HT_.out (by kernel_rfl)) (fun _ _ _ h => h) (Or.inl ⟨by rfl, ?_⟩) ?_ ?_
          rotate_left
          · intro w'
            go_simp
            with_reducible rfl
          rotate_left
          · simp only [Act.put, List.setIfInBounds_toArray, List.set_cons_zero, List.set_cons_succ, i64_w, i32_w]
            rfl
          refine done_ (done_of HT_.out (by kernel_rfl)) ?_
          clear HT_ HW_
          go_wp2
          refine bodyPost_ret (results_ct rfl _ _ w.heap.size 41 #[.int .i64 r1, .int .i64 r2] (0, 0) _ rfl (by refine blk_put (cs := #[.int .i64 r1, .int .i64 0]) ?_ 1 _ rfl; refine blk_put (cs := #[.int .i64 0, .int .i64 0]) ?_ 0 _ rfl; exact HK9.out) Try.underlying41 rfl (by kernel_rfl)) rfl ?_
          exact ⟨by have e := HG.out.2.2; rw [← e]; rfl, below_set (below_set HBwF.out (Nat.le_refl _)) (Nat.le_refl _)⟩

end Go.Proofs.Ythddeillkdediaa.H
