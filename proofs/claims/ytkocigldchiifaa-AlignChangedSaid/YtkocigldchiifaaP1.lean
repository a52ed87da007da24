/- How many walks there are, pair by pair from the last one on. -/
import Derived.Test.YtkocigldchiifaaP0
namespace Go.Proofs.Ytkocigldchiifaa.H
open Go.RowKit Go.Proofs.YtkocigldchiifaaW.PrintWords Go.Proofs.YtkocigldchiifaaW.PrintLast Go.Proofs.YtkocigldchiifaaW.PrintMore
open Go.Shelf Go.Proofs.Ytkocigldchiifaa.QA
set_option linter.unusedVariables false
set_option linter.unusedSimpArgs false


def cntH (a b : List S59) (h : Int) (u v : Nat) (l : List Int) : Int := if h < dEnd a b u v then 0 else min (l.foldl (fun m x => m + x) (if u = 0 ∧ v = 0 then 1 else 0)) 4503599627370496
/-- How many walks there are from a pair on, none of whose pairs is above a height (up to a limit). -/
def cntI (a b : List S59) (h i k : Int) : Int := dpI (cntH a b h) a b i k
theorem cnt_eq (a b : List S59) (h i k : Int) (hi : 0 ≤ i ∧ i < a.length) (hk : 0 ≤ k ∧ k < b.length) :
  cntI a b h i k = if h < farD (rd_T59 a i) (rd_T59 b k) then 0 else min ((movesOf a b i k).foldl (fun m q => m + cntI a b h q.f0 q.f1) (if i = (a.length : Int) - 1 ∧ k = (b.length : Int) - 1 then 1 else 0)) 4503599627370496 := by
 unfold cntI
 rw [dp_eq _ a b i k hi hk]
 unfold cntH
 rw [dEnd_eq a b i k hi hk, List.foldl_map]
 congr 3
 by_cases h : i = (a.length : Int) - 1 ∧ k = (b.length : Int) - 1
 · rw [if_pos h, if_pos (by omega)]
 · rw [if_neg h, if_neg (by omega)]
theorem foldl_add_in {α : Type} (f : α → Int) (M : Int) (l : List α) (x : Int) (hx : 0 ≤ x) (h : ∀ q ∈ l, 0 ≤ f q ∧ f q ≤ M) : 0 ≤ l.foldl (fun m q => m + f q) x ∧ l.foldl (fun m q => m + f q) x ≤ x + l.length * M := by
 induction l generalizing x with
 | nil => simp; exact hx
 | cons q l ih =>
  have h1 := h q List.mem_cons_self
  have h2 := ih (x + f q) (by omega) (fun q hq => h q (List.mem_cons_of_mem _ hq))
  simp only [List.foldl_cons, List.length_cons, Int.natCast_add, Int.natCast_one, Int.add_mul, Int.one_mul]
  omega
theorem cnt_in (a b : List S59) (h i k : Int) (hi : 0 ≤ i ∧ i < a.length) (hk : 0 ≤ k ∧ k < b.length) : ∀ n : Nat, ((a.length : Int) - i) + ((b.length : Int) - k) ≤ n → 0 ≤ cntI a b h i k ∧ cntI a b h i k ≤ 4503599627370496 := by
 intro n
 induction n generalizing i k with
 | zero => intro h; omega
 | succ n ih =>
  intro hn
  rw [cnt_eq a b h i k hi hk]
  split
  · omega
  · have hm := foldl_add_in (fun q : S25 => cntI a b h q.f0 q.f1) 4503599627370496 (movesOf a b i k) (if i = (a.length : Int) - 1 ∧ k = (b.length : Int) - 1 then 1 else 0) (by split <;> omega) (fun q hq => by
     obtain ⟨h1, h2⟩ := moves_mem hq
     obtain ⟨h3, h4⟩ := (hasP_iff a b _ _).1 h1
     refine ih _ _ h3 h4 ?_
     rcases h2 with rfl | rfl | rfl <;> simp only <;> omega)
    generalize (movesOf a b i k).foldl (fun m q => m + cntI a b h q.f0 q.f1) (if i = (a.length : Int) - 1 ∧ k = (b.length : Int) - 1 then 1 else 0) = y at hm ⊢
    omega
theorem cnt_in' (a b : List S59) (h : Int) {q : S25} (hq : hasP a b q.f0 q.f1 = true) : 0 ≤ cntI a b h q.f0 q.f1 ∧ cntI a b h q.f0 q.f1 ≤ 4503599627370496 := by
 obtain ⟨h3, h4⟩ := (hasP_iff a b _ _).1 hq
 exact cnt_in a b h _ _ h3 h4 (((a.length : Int) - q.f0) + ((b.length : Int) - q.f1)).toNat (by omega)

end Go.Proofs.Ytkocigldchiifaa.H
