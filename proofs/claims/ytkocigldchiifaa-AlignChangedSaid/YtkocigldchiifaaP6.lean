/- An event that is louder by a number changes the gap by at most this number. -/
import Derived.Test.YtkocigldchiifaaP5
namespace Go.Proofs.Ytkocigldchiifaa.H
open Go.RowKit Go.Proofs.YtkocigldchiifaaW.PrintWords Go.Proofs.YtkocigldchiifaaW.PrintLast Go.Proofs.YtkocigldchiifaaW.PrintMore
open Go.Shelf Go.Proofs.Ytkocigldchiifaa.QA
set_option linter.unusedVariables false
set_option linter.unusedSimpArgs false

theorem hasP_len {a a' b : List S59} (hl : a'.length = a.length) (i k : Int) : hasP a' b i k = hasP a b i k := by
 unfold hasP
 rw [hl]
theorem way_near {a a' b : List S59} {h n : Int} (hl : a'.length = a.length) (hd : ∀ i k, hasP a b i k = true → dist a' b i k ≤ dist a b i k + n) {i k : Int} (hw : Way a b h i k) : Way a' b (h + n) i k := by
 induction hw with
 | last i k e1 e2 hp hle => exact .last i k (by rw [hl]; exact e1) e2 (by rw [hasP_len hl]; exact hp) (by have := hd i k hp; omega)
 | step i k q hp hle hq hw ih =>
  refine .step i k q (by rw [hasP_len hl]; exact hp) (by have := hd i k hp; omega) ?_ ih
  obtain ⟨h1, h2⟩ := moves_mem hq
  exact mem_moves.2 ⟨by rw [hasP_len hl]; exact h1, h2⟩
theorem gap_near {a a' b : List S59} {n : Int} (hR : Rolls a b) (hR' : Rolls a' b) (hl : a'.length = a.length) (hd : ∀ i k, hasP a b i k = true → dist a' b i k ≤ dist a b i k + n) : gapI a' b ≤ gapI a b + n :=
 (gap_iff hR' _).2 (way_near hl hd ((gap_iff hR _).1 (Int.le_refl _)))
def louder (a : List S59) (j : Nat) (n : Int) : List S59 := a.set j ⟨(rd_T59 a j).f0, (rd_T59 a j).f1 + n, (rd_T59 a j).f2⟩
theorem far_louder (x y : S59) (n : Int) (hn : 0 ≤ n) : farD ⟨x.f0, x.f1 + n, x.f2⟩ y ≤ farD x y + n ∧ farD x y ≤ farD ⟨x.f0, x.f1 + n, x.f2⟩ y + n := by
 unfold farD apartD mx
 dsimp only
 split
 · constructor <;> (split <;> split <;> split <;> omega)
 · constructor <;> omega
theorem rd_louder (a : List S59) (j : Nat) (n : Int) (i : Int) (hi : 0 ≤ i ∧ i < a.length) : rd_T59 (louder a j n) i = if i = j then ⟨(rd_T59 a i).f0, (rd_T59 a i).f1 + n, (rd_T59 a i).f2⟩ else rd_T59 a i := by
 obtain ⟨m, rfl⟩ : ∃ m : Nat, i = m := ⟨i.toNat, by omega⟩
 unfold louder rd_T59
 simp only [Int.toNat_natCast]
 rw [List.getD_eq_getElem?_getD, List.getElem?_set]
 by_cases h : j = m
 · subst h
   rw [if_pos rfl, if_pos (by omega), if_pos rfl]
   rfl
 · rw [if_neg h, if_neg (fun e => h (by omega)), List.getD_eq_getElem?_getD]
theorem louder_len (a : List S59) (j : Nat) (n : Int) : (louder a j n).length = a.length := by unfold louder; rw [List.length_set]
theorem gap_louder {a b : List S59} {j : Nat} {n : Int} (hR : Rolls a b) (hR' : Rolls (louder a j n) b) (hn : 0 ≤ n) : gapI (louder a j n) b ≤ gapI a b + n ∧ gapI a b ≤ gapI (louder a j n) b + n := by
 have hl := louder_len a j n
 constructor
 · refine gap_near hR hR' hl (fun i k hp => ?_)
   obtain ⟨h1, h2⟩ := (hasP_iff a b i k).1 hp
   unfold dist
   rw [rd_louder a j n i h1]
   split
   · exact (far_louder _ _ n hn).1
   · omega
 · refine gap_near hR' hR hl.symm (fun i k hp => ?_)
   obtain ⟨h1, h2⟩ := (hasP_iff (louder a j n) b i k).1 hp
   unfold dist
   rw [rd_louder a j n i (by omega)]
   split
   · exact (far_louder _ _ n hn).2
   · omega

end Go.Proofs.Ytkocigldchiifaa.H
