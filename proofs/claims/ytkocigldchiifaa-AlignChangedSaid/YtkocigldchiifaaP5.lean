/- Walks whose height is at most a number; the gap is the smallest such number. -/
import Derived.Test.YtkocigldchiifaaP2
namespace Go.Proofs.Ytkocigldchiifaa.H
open Go.RowKit Go.Proofs.YtkocigldchiifaaW.PrintWords Go.Proofs.YtkocigldchiifaaW.PrintLast Go.Proofs.YtkocigldchiifaaW.PrintMore
open Go.Shelf Go.Proofs.Ytkocigldchiifaa.QA
set_option linter.unusedVariables false
set_option linter.unusedSimpArgs false

def dist (a b : List S59) (i k : Int) : Int := farD (rd_T59 a i) (rd_T59 b k)
/-- A walk from a pair to the last one, no pair of which is above h. -/
inductive Way (a b : List S59) (h : Int) : Int → Int → Prop
 | last (i k : Int) : i = (a.length : Int) - 1 → k = (b.length : Int) - 1 → hasP a b i k = true → dist a b i k ≤ h → Way a b h i k
 | step (i k : Int) (q : S25) : hasP a b i k = true → dist a b i k ≤ h → q ∈ movesOf a b i k → Way a b h q.f0 q.f1 → Way a b h i k
theorem Way.has {a b : List S59} {h i k : Int} (hw : Way a b h i k) : hasP a b i k = true ∧ dist a b i k ≤ h := by
 cases hw with
 | last _ _ _ _ h1 h2 => exact ⟨h1, h2⟩
 | step _ _ q h1 h2 _ _ => exact ⟨h1, h2⟩
theorem mem_moves {a b : List S59} {i k : Int} {q : S25} : q ∈ movesOf a b i k ↔ hasP a b q.f0 q.f1 = true ∧ (q = ⟨i + 1, k + 1⟩ ∨ q = ⟨i + 1, k⟩ ∨ q = ⟨i, k + 1⟩) := by
 refine ⟨moves_mem, fun h => ?_⟩
 unfold movesOf movesTo cand
 refine List.mem_filter.2 ⟨?_, h.1⟩
 simpa using h.2
theorem foldl_min_le {α : Type} (f : α → Int) (l : List α) (x : Int) : l.foldl (fun m q => min m (f q)) x ≤ x ∧ ∀ q ∈ l, l.foldl (fun m q => min m (f q)) x ≤ f q := by
 induction l generalizing x with
 | nil => exact ⟨Int.le_refl _, fun q hq => by cases hq⟩
 | cons y l ih =>
  obtain ⟨h1, h2⟩ := ih (min x (f y))
  refine ⟨Int.le_trans h1 (Int.min_le_left _ _), fun q hq => ?_⟩
  rcases List.mem_cons.1 hq with rfl | hq
  · exact Int.le_trans h1 (Int.min_le_right _ _)
  · exact h2 q hq
theorem dist_in {a b : List S59} (hR : Rolls a b) {i k : Int} (h : hasP a b i k = true) : 0 ≤ dist a b i k ∧ dist a b i k ≤ 1000000 := by
 obtain ⟨h1, h2⟩ := (hasP_iff a b i k).1 h
 exact far_in (rd_good hR.ga i h1) (rd_good hR.gb k h2)
theorem moves_some {a b : List S59} {i k : Int} (h : hasP a b i k = true) (hl : ¬ (i = (a.length : Int) - 1 ∧ k = (b.length : Int) - 1)) : ∃ q, q ∈ movesOf a b i k := by
 obtain ⟨h1, h2⟩ := (hasP_iff a b i k).1 h
 by_cases h3 : i + 1 < a.length
 · exact ⟨⟨i + 1, k⟩, mem_moves.2 ⟨(hasP_iff a b _ _).2 ⟨⟨by show 0 ≤ i + 1; omega, h3⟩, h2⟩, by simp⟩⟩
 · exact ⟨⟨i, k + 1⟩, mem_moves.2 ⟨(hasP_iff a b _ _).2 ⟨h1, ⟨by show 0 ≤ k + 1; omega, by show k + 1 < _; omega⟩⟩, by simp⟩⟩
theorem way_of (a b : List S59) (hR : Rolls a b) (h : Int) : ∀ (n : Nat) (i k : Int), hasP a b i k = true → ((a.length : Int) - i) + ((b.length : Int) - k) ≤ n → restI a b i k ≤ h → Way a b h i k := by
 intro n
 induction n with
 | zero => intro i k hp hn _; have := (hasP_iff a b i k).1 hp; omega
 | succ n ih =>
  intro i k hp hn hle
  obtain ⟨h1, h2⟩ := (hasP_iff a b i k).1 hp
  rw [rest_eq a b i k h1 h2] at hle
  have hmx : ∀ x y : Int, mx x y ≤ h → x ≤ h ∧ y ≤ h := fun x y hxy => by unfold mx at hxy; split at hxy <;> omega
  obtain ⟨h3, h4⟩ := hmx _ _ hle
  by_cases hl : i = (a.length : Int) - 1 ∧ k = (b.length : Int) - 1
  · exact .last i k hl.1 hl.2 hp h4
  · rw [if_neg hl] at h3
    obtain ⟨q, hq, hqr⟩ : ∃ q ∈ movesOf a b i k, restI a b q.f0 q.f1 ≤ h := by
     by_cases hbig : 1000000 ≤ h
     · obtain ⟨q, hq⟩ := moves_some hp hl
       obtain ⟨h5, h6⟩ := (hasP_iff a b _ _).1 (moves_mem hq).1
       exact ⟨q, hq, Int.le_trans (rest_in a b hR (((a.length : Int) - q.f0) + ((b.length : Int) - q.f1)).toNat q.f0 q.f1 h5 h6 (by omega)).2 hbig⟩
     · by_cases hex : ∃ q ∈ movesOf a b i k, restI a b q.f0 q.f1 ≤ h
       · exact hex
       · exfalso
         have := foldl_min_gt (fun q : S25 => restI a b q.f0 q.f1) h (movesOf a b i k) 1000000 (by omega) (fun q hq => by
          by_cases h7 : restI a b q.f0 q.f1 ≤ h
          · exact absurd ⟨q, hq, h7⟩ hex
          · omega)
         omega
    refine .step i k q hp h4 hq (ih q.f0 q.f1 (moves_mem hq).1 ?_ hqr)
    rcases (moves_mem hq).2 with e | e | e <;> rw [e] <;> dsimp only <;> omega
theorem mx_le {x y h : Int} (hx : x ≤ h) (hy : y ≤ h) : mx x y ≤ h := by
 unfold mx
 split <;> omega
theorem rest_of {a b : List S59} (hR : Rolls a b) {h i k : Int} (hw : Way a b h i k) : restI a b i k ≤ h := by
 induction hw with
 | last i k e1 e2 hp hd =>
  obtain ⟨h1, h2⟩ := (hasP_iff a b i k).1 hp
  rw [rest_eq a b i k h1 h2, if_pos ⟨e1, e2⟩]
  exact mx_le (Int.le_trans (foldl_min_le (fun q : S25 => restI a b q.f0 q.f1) _ _).1 (Int.le_trans (dist_in hR hp).1 hd)) hd
 | step i k q hp hd hq hw ih =>
  obtain ⟨h1, h2⟩ := (hasP_iff a b i k).1 hp
  rw [rest_eq a b i k h1 h2]
  exact mx_le (Int.le_trans ((foldl_min_le (fun q : S25 => restI a b q.f0 q.f1) _ _).2 q hq) ih) hd
/-- The smallest height of the walks from a pair on is at most h just if there is such a walk. -/
theorem way_iff {a b : List S59} (hR : Rolls a b) {h i k : Int} (hp : hasP a b i k = true) : restI a b i k ≤ h ↔ Way a b h i k := by
 refine ⟨fun hle => way_of a b hR h (((a.length : Int) - i) + ((b.length : Int) - k)).toNat i k hp (by have := (hasP_iff a b i k).1 hp; omega) hle, rest_of hR⟩
theorem has0 {a b : List S59} (hR : Rolls a b) : hasP a b 0 0 = true := (hasP_iff a b 0 0).2 ⟨⟨by omega, by have := hR.ha; omega⟩, ⟨by omega, by have := hR.hb; omega⟩⟩
/-- The gap. -/
def gapI (a b : List S59) : Int := restI a b 0 0
theorem gap_iff {a b : List S59} (hR : Rolls a b) (h : Int) : gapI a b ≤ h ↔ Way a b h 0 0 := way_iff hR (has0 hR)
theorem gap_in {a b : List S59} (hR : Rolls a b) : 0 ≤ gapI a b ∧ gapI a b ≤ 1000000 := by
 obtain ⟨h1, h2⟩ := (hasP_iff a b 0 0).1 (has0 hR)
 exact rest_in a b hR (a.length + b.length) 0 0 h1 h2 (by omega)
theorem farD_symm (x y : S59) : farD x y = farD y x := by
 unfold farD apartD mx
 by_cases h : x.f0 = y.f0
 · rw [if_pos h, if_pos h.symm]
   split <;> split <;> split <;> split <;> omega
 · rw [if_neg h, if_neg (Ne.symm h)]
theorem hasP_symm (a b : List S59) (i k : Int) : hasP b a k i = hasP a b i k := by
 unfold hasP
 rw [Bool.and_comm]
theorem Way.symm {a b : List S59} {h i k : Int} (hw : Way a b h i k) : Way b a h k i := by
 induction hw with
 | last i k e1 e2 hp hd => exact .last k i e2 e1 (by rw [hasP_symm]; exact hp) (by unfold dist at hd ⊢; rw [farD_symm]; exact hd)
 | step i k q hp hd hq hw ih =>
  refine .step k i ⟨q.f1, q.f0⟩ (by rw [hasP_symm]; exact hp) (by unfold dist at hd ⊢; rw [farD_symm]; exact hd) ?_ ih
  obtain ⟨h1, h2⟩ := moves_mem hq
  refine mem_moves.2 ⟨by rw [hasP_symm]; exact h1, ?_⟩
  rcases h2 with e | e | e <;> rw [e] <;> simp
theorem Rolls.symm {a b : List S59} (h : Rolls a b) : Rolls b a := ⟨h.hb, h.ha, h.gb, h.ga⟩
end Go.Proofs.Ytkocigldchiifaa.H
