/- The walk that comes first of all of its height. -/
import Derived.Test.YtkocigldchiifaaP0
namespace Go.Proofs.Ytkocigldchiifaa.H
open Go.RowKit Go.Proofs.YtkocigldchiifaaW.PrintWords Go.Proofs.YtkocigldchiifaaW.PrintLast Go.Proofs.YtkocigldchiifaaW.PrintMore
open Go.Shelf Go.Proofs.Ytkocigldchiifaa.QA
set_option linter.unusedVariables false
set_option linter.unusedSimpArgs false


/-- The first move to a pair from which a walk of the gap's height leads on. -/
def fitsW (a b : List S59) (q : S25) : Bool := decide (restI a b q.f0 q.f1 ≤ restI a b 0 0)
def nextOf (a b : List S59) (i k : Int) : Option S25 := (movesOf a b i k).find? (fitsW a b)
def walkFrom (a b : List S59) : Nat → Int → Int → List S25
 | 0, _, _ => []
 | n + 1, i, k => if i = (a.length : Int) - 1 ∧ k = (b.length : Int) - 1 then [] else match nextOf a b i k with
  | some q => q :: walkFrom a b n q.f0 q.f1
  | none => []
def walkOf (a b : List S59) : List S25 := ⟨0, 0⟩ :: walkFrom a b (a.length + b.length) 0 0
theorem foldl_min_gt {α : Type} (f : α → Int) (g : Int) (l : List α) (x : Int) (hx : g < x) (h : ∀ q ∈ l, g < f q) : g < l.foldl (fun m q => min m (f q)) x := by
 induction l generalizing x with
 | nil => exact hx
 | cons q l ih =>
  refine ih _ ?_ (fun q hq => h q (List.mem_cons_of_mem _ hq))
  have := h q List.mem_cons_self
  show g < min x (f q)
  omega
theorem next_some (a b : List S59) (hR : Rolls a b) (i k : Int) (hi : 0 ≤ i ∧ i < a.length) (hk : 0 ≤ k ∧ k < b.length) (hl : ¬ (i = (a.length : Int) - 1 ∧ k = (b.length : Int) - 1)) (hg : restI a b i k ≤ restI a b 0 0) :
  ∃ q, nextOf a b i k = some q ∧ q ∈ movesOf a b i k ∧ restI a b q.f0 q.f1 ≤ restI a b 0 0 := by
 cases hn : nextOf a b i k with
 | some q =>
  unfold nextOf at hn
  have h1 := List.mem_of_find?_eq_some hn
  have h2 := List.find?_some hn
  exact ⟨q, rfl, h1, of_decide_eq_true h2⟩
 | none =>
  exfalso
  unfold nextOf at hn
  rw [List.find?_eq_none] at hn
  have hall : ∀ q ∈ movesOf a b i k, restI a b 0 0 < restI a b q.f0 q.f1 := fun q hq => by
   have := hn q hq
   unfold fitsW at this
   simp at this
   exact this
  have hin : ∀ q ∈ movesOf a b i k, restI a b q.f0 q.f1 ≤ 1000000 := fun q hq => by
   obtain ⟨h3, h4⟩ := (hasP_iff a b _ _).1 (moves_mem hq).1
   exact (rest_in a b hR (((a.length : Int) - q.f0) + ((b.length : Int) - q.f1)).toNat q.f0 q.f1 h3 h4 (by omega)).2
  have hne : ∃ q, q ∈ movesOf a b i k := by
   rw [moves_eq a b i k hi hk]
   by_cases h1 : i + 1 < a.length
   · exact ⟨⟨i + 1, k⟩, by simp [h1]⟩
   · exact ⟨⟨i, k + 1⟩, by rw [if_neg (fun h => h1 h.1), if_neg h1, if_pos (by omega)]; simp⟩
  obtain ⟨q, hq⟩ := hne
  have hlt : restI a b 0 0 < 1000000 := Int.lt_of_lt_of_le (hall q hq) (hin q hq)
  rw [rest_eq a b i k hi hk, if_neg hl] at hg
  have hf := foldl_min_gt (fun q : S25 => restI a b q.f0 q.f1) _ (movesOf a b i k) 1000000 hlt hall
  revert hg hf
  generalize (movesOf a b i k).foldl (fun m q => min m (restI a b q.f0 q.f1)) 1000000 = y
  unfold mx
  intro hg hf
  split at hg <;> omega

end Go.Proofs.Ytkocigldchiifaa.H
