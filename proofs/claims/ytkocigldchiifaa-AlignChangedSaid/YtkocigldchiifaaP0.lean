/- What is reckoned pair by pair, from the last one on. -/
import Derived.Test.YtkocigldchiifaaH4
namespace Go.Proofs.Ytkocigldchiifaa.H
open Go.RowKit Go.Proofs.YtkocigldchiifaaW.PrintWords Go.Proofs.YtkocigldchiifaaW.PrintLast Go.Proofs.YtkocigldchiifaaW.PrintMore
open Go.Shelf Go.Proofs.Ytkocigldchiifaa.QA
set_option linter.unusedVariables false
set_option linter.unusedSimpArgs false


/-- Row by row from the end: each number out of those that moves lead to. -/
def dpRow (h : Nat → List Int → Int) (p : Option (Nat → Int)) : Nat → Int
 | 0 => h 0 (match p with | none => [] | some q => [q 0])
 | v + 1 => h (v + 1) (match p with | none => [dpRow h p v] | some q => [q v, q (v + 1), dpRow h p v])
def dp (h : Nat → Nat → List Int → Int) : Nat → Nat → Int
 | 0 => dpRow (h 0) none
 | u + 1 => dpRow (h (u + 1)) (some (dp h u))
def dpI (h : Nat → Nat → List Int → Int) (a b : List S59) (i k : Int) : Int := dp h ((a.length : Int) - 1 - i).toNat ((b.length : Int) - 1 - k).toNat
theorem moves_eq (a b : List S59) (i k : Int) (hi : 0 ≤ i ∧ i < a.length) (hk : 0 ≤ k ∧ k < b.length) :
  movesOf a b i k = (if i + 1 < a.length ∧ k + 1 < b.length then [⟨i + 1, k + 1⟩] else []) ++ ((if i + 1 < a.length then [⟨i + 1, k⟩] else []) ++ (if k + 1 < b.length then [⟨i, k + 1⟩] else [])) := by
 have e1 : hasP a b (i + 1) (k + 1) = decide (i + 1 < a.length ∧ k + 1 < b.length) := by
  rw [Bool.eq_iff_iff, hasP_iff]; simp; omega
 have e2 : hasP a b (i + 1) k = decide (i + 1 < a.length) := by
  rw [Bool.eq_iff_iff, hasP_iff]; simp; omega
 have e3 : hasP a b i (k + 1) = decide (k + 1 < b.length) := by
  rw [Bool.eq_iff_iff, hasP_iff]; simp; omega
 simp only [movesOf, movesTo, cand]
 simp only [List.take_succ_cons, List.take_zero, List.filter_cons, List.filter_nil, e1, e2, e3, decide_eq_true_eq]
 split <;> split <;> split <;> simp
theorem dp_eq (h : Nat → Nat → List Int → Int) (a b : List S59) (i k : Int) (hi : 0 ≤ i ∧ i < a.length) (hk : 0 ≤ k ∧ k < b.length) :
  dpI h a b i k = h ((a.length : Int) - 1 - i).toNat ((b.length : Int) - 1 - k).toNat ((movesOf a b i k).map fun q => dpI h a b q.f0 q.f1) := by
 rw [moves_eq a b i k hi hk]
 obtain ⟨u, hu⟩ : ∃ u, u = ((a.length : Int) - 1 - i).toNat := ⟨_, rfl⟩
 obtain ⟨v, hv⟩ : ∃ v, v = ((b.length : Int) - 1 - k).toNat := ⟨_, rfl⟩
 have e1 : ∀ x : Int, dpI h a b (i + 1) x = dp h (u - 1) ((b.length : Int) - 1 - x).toNat := fun x => by unfold dpI; congr 1; omega
 have e2 : ∀ x : Int, dpI h a b x (k + 1) = dp h ((a.length : Int) - 1 - x).toNat (v - 1) := fun x => by unfold dpI; congr 1; omega
 have e3 : dpI h a b (i + 1) (k + 1) = dp h (u - 1) (v - 1) := by rw [e1]; congr 1; omega
 have e4 : dpI h a b (i + 1) k = dp h (u - 1) v := by rw [e1, hv]
 have e5 : dpI h a b i (k + 1) = dp h u (v - 1) := by rw [e2, hu]
 have e6 : dpI h a b i k = dp h u v := by unfold dpI; rw [hu, hv]
 rw [e6, ← hu, ← hv]
 cases u with
 | zero =>
  rw [if_neg (by omega), if_neg (by omega)]
  cases v with
  | zero => rw [if_neg (by omega)]; rfl
  | succ v =>
   rw [if_pos (by omega)]
   show dpRow _ none (v + 1) = _
   simp only [List.nil_append, List.map_cons, List.map_nil, e5]
   rfl
 | succ u =>
  cases v with
  | zero =>
   rw [if_neg (by omega), if_pos (by omega), if_neg (by omega)]
   show dpRow _ (some (dp h u)) 0 = _
   simp only [List.nil_append, List.append_nil, List.map_cons, List.map_nil, e4]
   rfl
  | succ v =>
   rw [if_pos (by omega), if_pos (by omega), if_pos (by omega)]
   show dpRow _ (some (dp h u)) (v + 1) = _
   simp only [List.cons_append, List.nil_append, List.map_cons, List.map_nil, e3, e4, e5]
   rfl
/-- The distance of a pair, told from the end. -/
def dEnd (a b : List S59) (u v : Nat) : Int := farD (rd_T59 a ((a.length : Int) - 1 - u)) (rd_T59 b ((b.length : Int) - 1 - v))
theorem dEnd_eq (a b : List S59) (i k : Int) (hi : 0 ≤ i ∧ i < a.length) (hk : 0 ≤ k ∧ k < b.length) : dEnd a b ((a.length : Int) - 1 - i).toNat ((b.length : Int) - 1 - k).toNat = farD (rd_T59 a i) (rd_T59 b k) := by
 unfold dEnd
 congr 2 <;> omega
def restH (a b : List S59) (u v : Nat) (l : List Int) : Int := mx (l.foldl min (if u = 0 ∧ v = 0 then 0 else 1000000)) (dEnd a b u v)
/-- The smallest height of the walks from a pair on. -/
def restI (a b : List S59) (i k : Int) : Int := dpI (restH a b) a b i k
theorem rest_eq (a b : List S59) (i k : Int) (hi : 0 ≤ i ∧ i < a.length) (hk : 0 ≤ k ∧ k < b.length) :
  restI a b i k = mx ((movesOf a b i k).foldl (fun m q => min m (restI a b q.f0 q.f1)) (if i = (a.length : Int) - 1 ∧ k = (b.length : Int) - 1 then 0 else 1000000)) (farD (rd_T59 a i) (rd_T59 b k)) := by
 unfold restI
 rw [dp_eq _ a b i k hi hk]
 unfold restH
 rw [dEnd_eq a b i k hi hk, List.foldl_map]
 congr 2
 by_cases h : i = (a.length : Int) - 1 ∧ k = (b.length : Int) - 1
 · rw [if_pos h, if_pos (by omega)]
 · rw [if_neg h, if_neg (by omega)]
theorem rd_good {l : List S59} (h : ∀ x ∈ l, goodB x = true) (i : Int) (hi : 0 ≤ i ∧ i < l.length) : goodB (rd_T59 l i) = true := by
 unfold rd_T59
 rw [List.getD_eq_getElem?_getD, List.getElem?_eq_getElem (show i.toNat < l.length by omega)]
 exact h _ (List.getElem_mem _)
theorem foldl_min_in {α : Type} (f : α → Int) (l : List α) (x M : Int) (hx : 0 ≤ x ∧ x ≤ M) (h : ∀ q ∈ l, 0 ≤ f q ∧ f q ≤ M) : 0 ≤ l.foldl (fun m q => min m (f q)) x ∧ l.foldl (fun m q => min m (f q)) x ≤ M := by
 induction l generalizing x with
 | nil => exact hx
 | cons q l ih =>
  refine ih _ ?_ (fun q hq => h q (List.mem_cons_of_mem _ hq))
  have := h q List.mem_cons_self
  show 0 ≤ min x (f q) ∧ min x (f q) ≤ M
  omega
theorem moves_mem {a b : List S59} {i k : Int} {q : S25} (h : q ∈ movesOf a b i k) : hasP a b q.f0 q.f1 = true ∧ (q = ⟨i + 1, k + 1⟩ ∨ q = ⟨i + 1, k⟩ ∨ q = ⟨i, k + 1⟩) := by
 unfold movesOf movesTo cand at h
 obtain ⟨h1, h2⟩ := List.mem_filter.1 h
 refine ⟨h2, ?_⟩
 simpa using h1
theorem rest_in (a b : List S59) (hR : Rolls a b) : ∀ (n : Nat) (i k : Int), (0 ≤ i ∧ i < a.length) → (0 ≤ k ∧ k < b.length) → ((a.length : Int) - i) + ((b.length : Int) - k) ≤ n → 0 ≤ restI a b i k ∧ restI a b i k ≤ 1000000 := by
 intro n
 induction n with
 | zero => intro i k hi hk h; omega
 | succ n ih =>
  intro i k hi hk h
  rw [rest_eq a b i k hi hk]
  have hf := far_in (rd_good hR.ga i hi) (rd_good hR.gb k hk)
  have hm := foldl_min_in (fun q : S25 => restI a b q.f0 q.f1) (movesOf a b i k) (if i = (a.length : Int) - 1 ∧ k = (b.length : Int) - 1 then 0 else 1000000) 1000000 (by split <;> omega) (fun q hq => by
   obtain ⟨h1, h2⟩ := moves_mem hq
   obtain ⟨h3, h4⟩ := (hasP_iff a b _ _).1 h1
   refine ih _ _ h3 h4 ?_
   rcases h2 with rfl | rfl | rfl <;> simp only <;> omega)
  generalize (movesOf a b i k).foldl (fun m q => min m (restI a b q.f0 q.f1)) (if i = (a.length : Int) - 1 ∧ k = (b.length : Int) - 1 then 0 else 1000000) = y at hm ⊢
  unfold mx
  split <;> omega

end Go.Proofs.Ytkocigldchiifaa.H
