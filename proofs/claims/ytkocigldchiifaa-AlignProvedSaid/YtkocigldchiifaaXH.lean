/- Texts P9, T4, T5 of this chapter, one behind the other. -/
import Derived.Maps.AppendAt
import Derived.Test.YtkocigldchiifaaQA7
import Derived.Test.YtkocigldchiifaaXB
import Derived.Test.YtkocigldchiifaaXD
import Derived.Test.YtkocigldchiifaaXF
import Derived.Test.YtkocigldchiifaaXG

/- The heights of all walks, one by one; each step of the walk that comes first. -/
namespace Go.Proofs.Ytkocigldchiifaa.H
open Go.RowKit Go.Proofs.YtkocigldchiifaaW.PrintWords Go.Proofs.YtkocigldchiifaaW.PrintLast Go.Proofs.YtkocigldchiifaaW.PrintMore
open Go.Shelf Go.Proofs.Ytkocigldchiifaa.QA
set_option linter.unusedVariables false
set_option linter.unusedSimpArgs false

theorem lawfar_f {x y : S59} (hx : goodB x = true) (hy : goodB y = true) : pianolalaw07_far.f x.f0 x.f1 x.f2 y.f0 y.f1 y.f2 = some (farD x y) := by
 obtain ⟨_, h2, h3⟩ := good_in hx
 obtain ⟨_, h5, h6⟩ := good_in hy
 have w1 : wrap64 (x.f1 - y.f1) = x.f1 - y.f1 := w64' _ (by omega) (by omega)
 have w2 : wrap64 (x.f2 - y.f2) = x.f2 - y.f2 := w64' _ (by omega) (by omega)
 have w3 : wrap64 (-(x.f1 - y.f1)) = y.f1 - x.f1 := by rw [w64' _ (by omega) (by omega)]; omega
 have w4 : wrap64 (-(x.f2 - y.f2)) = y.f2 - x.f2 := by rw [w64' _ (by omega) (by omega)]; omega
 unfold pianolalaw07_far.f farD
 rw [w1, w2, w3, w4]
 split
 · have q1 := apartD_in x.f1 y.f1 1000 h2 h5
   have q2 := apartD_in x.f2 y.f2 1000 h3 h6
   show some (wrap64 (apartD x.f1 y.f1 + apartD x.f2 y.f2)) = _
   rw [w64' _ (by omega) (by omega)]
 · rfl
theorem mx_le_iff {x y g : Int} : mx x y ≤ g ↔ x ≤ g ∧ y ≤ g := by unfold mx; split <;> omega
/-- What the law asks of a pair: some walk from there on is of the gap's height at most. -/
structure Told (a b : List S59) (r : S25) (good : Bool) : Prop where
 out : ∃ L n, pianolalaw07_heights.f n a b r.f0 r.f1 0 = some L ∧ ((L.length = 0 ∧ good = false) ∨ (0 < L.length ∧ ∃ m k, pianolalaw07_least.f k L = some m ∧ decide (m ≤ gapI a b) = good))
/-- The three pairs a move may lead to, in their order. -/
def cand3 (p : S25) (n : Nat) : S25 := match n with | 0 => ⟨p.f0 + 1, p.f1 + 1⟩ | 1 => ⟨p.f0 + 1, p.f1⟩ | _ => ⟨p.f0, p.f1 + 1⟩
/-- A step of the walk: it goes to the first of the three from which the gap's height is kept. -/
def Stp (a b : List S59) (p q : S25) : Prop := hasP a b p.f0 p.f1 = true ∧ ∃ n, n < 3 ∧ q = cand3 p n ∧ Told a b q true ∧ ∀ m, m < n → cand3 p m ≠ q ∧ Told a b (cand3 p m) false
structure WalkAll (a b : List S59) (W : List S25) : Prop where
 pos : 0 < W.length
 len : W.length ≤ 11
 first : rd_T25 W 0 = ⟨0, 0⟩
 last : rd_T25 W ((W.length : Int) - 1) = ⟨(a.length : Int) - 1, (b.length : Int) - 1⟩
 step : ∀ j : Nat, j + 1 < W.length → Stp a b (rd_T25 W (j : Int)) (rd_T25 W ((j : Int) + 1))
end Go.Proofs.Ytkocigldchiifaa.H

/- Rows of events of one's own: appended to, stored into. -/
namespace Go.Proofs.Ytkocigldchiifaa.H
open Go.RowKit Go.Proofs.YtkocigldchiifaaW.PrintWords Go.Proofs.YtkocigldchiifaaW.PrintLast Go.Proofs.YtkocigldchiifaaW.PrintMore
open Go.Shelf Go.Proofs.Ytkocigldchiifaa.QA
set_option linter.unusedVariables false
set_option linter.unusedSimpArgs false

def cellsE (xs : List S59) : List Value := xs.flatMap fun x => [.int .i64 x.f0, .int .i64 x.f1, .int .i64 x.f2]
theorem cellsE_get (xs : List S59) (i : Nat) (x : S59) (h : xs[i]? = some x) : (cellsE xs)[3 * i]? = some (.int .i64 x.f0) ∧ (cellsE xs)[3 * i + 1]? = some (.int .i64 x.f1) ∧ (cellsE xs)[3 * i + 2]? = some (.int .i64 x.f2) := by
 induction xs generalizing i with
 | nil => simp at h
 | cons y xs ih =>
  have e : cellsE (y :: xs) = .int .i64 y.f0 :: .int .i64 y.f1 :: .int .i64 y.f2 :: cellsE xs := by simp [cellsE]
  rw [e]
  cases i with
  | zero => simp at h; subst h; simp
  | succ i =>
   have := ih i (by simpa using h)
   rw [show 3 * (i + 1) = 3 * i + 1 + 1 + 1 by omega]
   simpa using this
/-- An own row of events. -/
def OwnE (W : World) (base : Nat) (v : Value) (xs : List S59) : Prop := W.ownsRow base 59 3 v xs.length (cellsE xs)
theorem reps_E (w : World) (base : Nat) (ok : Nat → Prop) (xs : List S59) : Reps (k59.M w base ok) 3 xs (cellsE xs) := by
 have h : ∀ (ys zs : List S59), Reps (k59.M w base ok) 3 ys (cellsE ys) → Reps (k59.M w base ok) 3 (ys ++ zs) (cellsE (ys ++ zs)) := fun ys zs => by
  induction zs generalizing ys with
  | nil => intro h; simpa using h
  | cons z zs ih =>
   intro h
   have := ih (ys ++ [z]) (by
    have h2 := h.snoc (p := z) (c := [.int .i64 z.f0, .int .i64 z.f1, .int .i64 z.f2]) (k59_mkM w base ok z) rfl
    simpa [cellsE] using h2)
   simpa using this
 simpa using h [] xs (Reps.none _ _)
theorem OwnE.R {W : World} {base : Nat} {v : Value} {xs : List S59} (h : OwnE W base v xs) : Kd.R k59 59 W base (fun _ => True) v xs := ⟨fun _ _ => trivial, cellsE xs, h, reps_E _ _ _ xs⟩
theorem OwnE.reads {W : World} {base : Nat} {v : Value} {xs : List S59} (h : OwnE W base v xs) : ∃ A c, v = .slice A xs.length c ∧ xs.length ≤ c ∧ Kd.C k59 W A xs.length xs := Kd.R_reads h.R
theorem OwnE.below {W W' : World} {base : Nat} {v : Value} {xs : List S59} (h : OwnE W base v xs) (hb : Below W.heap.size W W') : OwnE W' base v xs := by
 obtain ⟨h1, h2⟩ := h
 refine ⟨h1, ?_⟩
 rcases h2 with h2 | ⟨g, cap, cur, h3, h4, h5, h6⟩
 · exact .inl h2
 · exact .inr ⟨g, cap, cur, h3, h4, (hb.block g (Array.getElem?_eq_some_iff.1 h5).1).trans h5, h6⟩
end Go.Proofs.Ytkocigldchiifaa.H

/- pianolalaw07.AlignChanged. -/
namespace Go.Proofs.Ytkocigldchiifaa.H
open Go.RowKit Go.Proofs.YtkocigldchiifaaW.PrintWords Go.Proofs.YtkocigldchiifaaW.PrintLast Go.Proofs.YtkocigldchiifaaW.PrintMore
open Go.Shelf Go.Proofs.Ytkocigldchiifaa.QA
set_option linter.unusedVariables false
set_option linter.unusedSimpArgs false

theorem OwnE.cell1 {W : World} {base g cap n : Nat} {xs : List S59} (h : OwnE W base (.slice (some ⟨g, 0, none⟩) n cap) xs) (j : Nat) (hj : j < xs.length) : W.cell? ⟨g, j * 3 + 1, none⟩ = some (.int .i64 (rd_T59 xs j).f1) ∧ W.frozen? ⟨g, j * 3 + 1, none⟩ = false := by
 rcases h.2 with ⟨h3, _⟩ | ⟨g', cap', cur, h3, h4, h5, h6, h7, h8, h9⟩
 · cases h3
 · cases h3
   have hx : xs[j]? = some (rd_T59 xs j) := by unfold rd_T59; rw [Int.toNat_natCast, List.getD_eq_getElem?_getD, List.getElem?_eq_getElem hj]; rfl
   have h10 := (cellsE_get xs j _ hx).2.1
   rw [← h9, List.getElem?_take_of_lt (by omega), Array.getElem?_toList] at h10
   refine ⟨?_, blk_frozen h5 _⟩
   unfold World.cell?
   simp only [h5]
   rw [Nat.mul_comm j 3]
   exact h10
end Go.Proofs.Ytkocigldchiifaa.H
