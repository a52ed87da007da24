/- Plain laws of a valid sheet: steps, offsets, numbers of a list; a cell of an own row of own rows is written. -/
import Derived.Test.YtnbcdbkhpdpjgaaHV
import Derived.Test.YtnbcdbkhpdpjgaaHQ
import Derived.Test.YtnbcdbkhpdpjgaaH7
namespace Go.Proofs.Ytnbcdbkhpdpjgaa.H
open Go.RowKit Go.Proofs.YtnbcdbkhpdpjgaaW.PrintWords Go.Proofs.YtnbcdbkhpdpjgaaW.PrintLast Go.Proofs.YtnbcdbkhpdpjgaaW.PrintMore
open Go.Proofs.Ytnbcdbkhpdpjgaa.QA
set_option linter.unusedVariables false
set_option linter.unusedSimpArgs false

def Valid (a : Int) (ls : List (List Int)) : Prop := (0 ≤ a ∧ a ≤ 50) ∧ 0 < ls.length ∧ ls.length ≤ 6 ∧ ∀ l ∈ ls, 0 < l.length ∧ l.length ≤ 12 ∧ ∀ p ∈ l, 0 ≤ p ∧ p ≤ 1000000
theorem chkRows_of : ∀ (ls : List (List Int)), (∀ l ∈ ls, 0 < l.length ∧ l.length ≤ 12 ∧ ∀ p ∈ l, 0 ≤ p ∧ p ≤ 1000000) → chkRows ls = 0
 | [], _ => rfl
 | l :: ls, h => by
  obtain ⟨h1, h2, h3⟩ := h l List.mem_cons_self
  unfold chkRows
  have h4 : (l.any fun p => !isIn 0 p 1000000) = false := List.any_eq_false.2 fun p hp => by
   unfold isIn
   rw [decide_eq_true (h3 p hp).1, decide_eq_true (h3 p hp).2]; simp
  rw [if_neg (by omega), if_neg (by omega), h4]
  exact chkRows_of ls fun x hx => h x (List.mem_cons_of_mem _ hx)
theorem check_of {a : Int} {ls : List (List Int)} (h : Valid a ls) : step_Check.f a ls = some 0 := by
 obtain ⟨h1, h2, h3, h4⟩ := h
 unfold step_Check.f
 have : isIn 0 a 50 = true := by unfold isIn; rw [decide_eq_true h1.1, decide_eq_true h1.2]; rfl
 rw [this, if_neg (by simp), if_neg (by omega), if_neg (by omega), chkRows_of ls h4]
theorem steps_of {a : Int} {ls : List (List Int)} (h : Valid a ls) (lo hi : Int) (h1 : 1 ≤ lo) (h2 : lo ≤ hi) (h3 : hi ≤ 1000) : step_Steps.f a ls lo hi = some (stepsFrom a ls (hi - lo + 1).toNat lo, 0) := by
 unfold step_Steps.f
 rw [check_of h, Option.bind_some, if_pos rfl, if_neg (by unfold spanBad; rw [decide_eq_false (by omega), decide_eq_false (by omega), decide_eq_false (by omega)]; simp)]
theorem mem_steps (a : Int) (ls : List (List Int)) : ∀ (n : Nat) (lo x : Int), x ∈ stepsFrom a ls n lo ↔ (lo ≤ x ∧ x < lo + n) ∧ ∀ l ∈ ls, allowsB a x l = true
 | 0, lo, x => by unfold stepsFrom; simp; omega
 | n + 1, lo, x => by
  unfold stepsFrom
  rw [List.mem_append, mem_steps a ls n (lo + 1) x]
  by_cases hx : x = lo
  · subst hx
    constructor
    · rintro (h | h)
      · split at h
        · rename_i hall
          exact ⟨⟨by omega, by omega⟩, fun l hl => List.all_eq_true.1 hall l hl⟩
        · simp at h
      · omega
    · rintro ⟨h1, h2⟩
      left
      rw [if_pos (List.all_eq_true.2 h2)]
      simp
  · constructor
    · rintro (h | ⟨h1, h2⟩)
      · split at h
        · exact absurd (List.mem_singleton.1 h) hx
        · simp at h
      · exact ⟨⟨by omega, by omega⟩, h2⟩
    · rintro ⟨h1, h2⟩
      exact .inr ⟨⟨by omega, by omega⟩, h2⟩
theorem steps_len (a : Int) (ls : List (List Int)) : ∀ (n : Nat) (lo : Int), (stepsFrom a ls n lo).length ≤ n
 | 0, lo => by unfold stepsFrom; simp
 | n + 1, lo => by
  unfold stepsFrom
  rw [List.length_append]
  have := steps_len a ls n (lo + 1)
  split <;> simp only [List.length_cons, List.length_nil] <;> omega
theorem offs_mem' (off s o : Int) (l : List Int) (hs : 0 < s) (ho : 0 ≤ off) : o ∈ offsOf off s l ↔ (0 ≤ o ∧ o < s) ∧ l.all (fitB off s o) = true := by
 unfold offsOf offsTo
 rw [List.mem_filter, offsB_fits off s o l hs ho]
 refine and_congr ?_ Iff.rfl
 rw [List.mem_map]
 constructor
 · rintro ⟨i, hi, rfl⟩
   have := List.mem_range.1 hi
   omega
 · rintro ⟨h0, h1⟩
   exact ⟨o.toNat, List.mem_range.2 (by omega), by omega⟩
/-- A step is possible just if some offset fits all positions. -/
theorem allows_iff (off s : Int) (l : List Int) (hs : 0 < s) (ho : 0 ≤ off) (hl : l ≠ []) : allowsB off s l = true ↔ ∃ o, (0 ≤ o ∧ o < s) ∧ ∀ p ∈ l, (o + off - p) % s ≤ 2 * off := by
 rw [allows_offs off s l hs hl, decide_eq_true_iff]
 constructor
 · intro h
   obtain ⟨o, hm⟩ := List.exists_mem_of_length_pos h
   obtain ⟨h1, h2⟩ := (offs_mem' off s o l hs ho).1 hm
   exact ⟨o, h1, fun p hp => by have := List.all_eq_true.1 h2 p hp; rw [fit_mod off s o p hs] at this; exact of_decide_eq_true this⟩
 · rintro ⟨o, h1, h2⟩
   exact List.length_pos_of_mem ((offs_mem' off s o l hs ho).2 ⟨h1, List.all_eq_true.2 fun p hp => by rw [fit_mod off s o p hs]; exact decide_eq_true (h2 p hp)⟩)
theorem has_l0 (l : List Int) (x : Int) (hl : l.length ≤ 1000000) : ∀ n (i : Nat), l.length = i + n → ∀ k, n + 1 ≤ k → pianolalaw01_has.l0 k x l (l.length : Int) (i : Int) = some (decide (x ∈ l.drop i))
 | 0, i, h, k, hk => by
  obtain ⟨k, rfl⟩ : ∃ m, k = m + 1 := ⟨k - 1, by omega⟩
  unfold pianolalaw01_has.l0
  rw [if_neg (by omega), List.drop_eq_nil_of_le (by omega)]
  simp
 | n + 1, i, h, k, hk => by
  obtain ⟨k, rfl⟩ : ∃ m, k = m + 1 := ⟨k - 1, by omega⟩
  unfold pianolalaw01_has.l0
  have e : rd l (i : Int) = l[i]'(by omega) := by unfold rd; rw [Int.toNat_natCast, List.getD_eq_getElem?_getD, List.getElem?_eq_getElem (by omega)]; rfl
  rw [if_pos (by omega), if_pos (by omega), if_pos (by omega), e, w64 _ (by omega) (by omega), List.drop_eq_getElem_cons (by omega)]
  by_cases hx : l[i]'(by omega) = x
  · rw [if_pos hx, hx]; simp
  · rw [if_neg hx, show ((i : Int) + 1) = ((i + 1 : Nat) : Int) by omega, has_l0 l x hl n (i + 1) (by omega) k (by omega)]
    congr 1
    rw [decide_eq_decide, List.mem_cons]
    exact ⟨fun h => .inr h, fun h => h.resolve_left (fun e => hx e.symm)⟩
theorem has_f (l : List Int) (x : Int) (hl : l.length ≤ 1000000) (k : Nat) (hk : l.length + 1 ≤ k) : pianolalaw01_has.f k l x = some (decide (x ∈ l)) := by
 have := has_l0 l x hl l.length 0 (by omega) k hk
 rwa [List.drop_zero] at this
theorem Made.valid {off s : Int} {cs rs : List (List Int)} {os : List Int} (h : Made off cs s os rs) : Valid off cs := by
 refine ⟨by have := h.ho; omega, by have := h.hc; omega, by have := h.hc; omega, fun l hl => ?_⟩
 obtain ⟨c, hc, rfl⟩ := List.getElem_of_mem hl
 obtain ⟨g1, g2, g3, g4⟩ := h.inn c hc
 have e : cs.getD c [] = cs[c] := by rw [List.getD_eq_getElem?_getD, List.getElem?_eq_getElem hc]; rfl
 rw [e] at g2 g4
 refine ⟨by omega, by omega, fun p hp => ?_⟩
 obtain ⟨k, hk, rfl⟩ := List.getElem_of_mem hp
 have g5 := g4 k hk
 rw [show cs[c].getD k 0 = cs[c][k] by rw [List.getD_eq_getElem?_getD, List.getElem?_eq_getElem hk]; rfl] at g5
 unfold Tr at g5
 omega
end Go.Proofs.Ytnbcdbkhpdpjgaa.H
