/- Plain laws of StepShifts: shifts, orders and factors. -/
import Derived.Test.YtnbcdbkhpdpjgaaHW
namespace Go.Proofs.Ytnbcdbkhpdpjgaa.H
open Go.RowKit Go.Proofs.YtnbcdbkhpdpjgaaW.PrintWords Go.Proofs.YtnbcdbkhpdpjgaaW.PrintLast Go.Proofs.YtnbcdbkhpdpjgaaW.PrintMore
open Go.Proofs.Ytnbcdbkhpdpjgaa.QA
set_option linter.unusedVariables false
set_option linter.unusedSimpArgs false

/-- The copies in the opposite order, each in the opposite order, the last one shifted. -/
def yRow (cs : List (List Int)) (sh : Int) (i : Nat) : List Int := (cs.getD (cs.length - 1 - i) []).reverse.map fun p => if i = 0 then p + sh else p
def yAll (cs : List (List Int)) (sh : Int) (n : Nat) : List (List Int) := (List.range n).map (yRow cs sh)
theorem yAll_succ (cs : List (List Int)) (sh : Int) (n : Nat) : yAll cs sh (n + 1) = yAll cs sh n ++ [yRow cs sh n] := by
 unfold yAll; rw [List.range_succ, List.map_append]; rfl
/-- What has been put together of a copy. -/
def yPart (l : List Int) (sh : Int) (z : Prop) [Decidable z] (k : Nat) : List Int := (l.reverse.take k).map fun p => if z then p + sh else p
theorem yPart_succ (l : List Int) (sh : Int) (z : Prop) [Decidable z] (k : Nat) (hk : k < l.length) : yPart l sh z (k + 1) = yPart l sh z k ++ [if z then l.getD (l.length - 1 - k) 0 + sh else l.getD (l.length - 1 - k) 0] := by
 unfold yPart
 rw [List.take_succ_eq_append_getElem (by rw [List.length_reverse]; exact hk), List.map_append, List.getElem_reverse]
 rw [List.getD_eq_getElem?_getD, List.getElem?_eq_getElem (by omega)]
 rfl
theorem yPart_all (cs : List (List Int)) (sh : Int) (i : Nat) : yPart (cs.getD (cs.length - 1 - i) []) sh (i = 0) (cs.getD (cs.length - 1 - i) []).length = yRow cs sh i := by
 unfold yPart yRow
 rw [List.take_of_length_le (by rw [List.length_reverse]; exact Nat.le_refl _)]
theorem yPart_len (l : List Int) (sh : Int) (z : Prop) [Decidable z] (k : Nat) : (yPart l sh z k).length ≤ k := by unfold yPart; rw [List.length_map, List.length_take]; omega
theorem allows_shift (off s sh : Int) (l l2 : List Int) (hs : 0 < s) (ho : 0 ≤ off) (hl : l ≠ []) (hl2 : l2 ≠ []) (h : ∀ q ∈ l2, q - sh ∈ l) (ha : allowsB off s l = true) : allowsB off s l2 = true := by
 obtain ⟨o, h1, h2⟩ := (allows_iff off s l hs ho hl).1 ha
 refine (allows_iff off s l2 hs ho hl2).2 ⟨(o + sh) % s, ⟨Int.emod_nonneg _ (by omega), Int.emod_lt_of_pos _ hs⟩, fun q hq => ?_⟩
 have h3 := h2 _ (h q hq)
 rw [show (o + sh) % s + off - q = (o + sh) % s + (off - q) by omega, Int.emod_add_emod, show o + sh + (off - q) = o + off - (q - sh) by omega]
 exact h3
theorem yRow_mem (cs : List (List Int)) (sh : Int) (i : Nat) : (∀ q ∈ yRow cs sh i, q - (if i = 0 then sh else 0) ∈ cs.getD (cs.length - 1 - i) []) ∧ (∀ p ∈ cs.getD (cs.length - 1 - i) [], p + (if i = 0 then sh else 0) ∈ yRow cs sh i) := by
 unfold yRow
 constructor
 · intro q hq
   obtain ⟨p, hp, rfl⟩ := List.mem_map.1 hq
   split <;> simpa using hp
 · intro p hp
   refine List.mem_map.2 ⟨p, by simpa using hp, ?_⟩
   split <;> simp
theorem getD_at (cs : List (List Int)) (c : Nat) (h : c < cs.length) : cs.getD c [] = cs[c] := by rw [List.getD_eq_getElem?_getD, List.getElem?_eq_getElem h]; rfl
theorem y_same (off s sh : Int) (cs : List (List Int)) (hs : 0 < s) (h : Valid off cs) : (yAll cs sh cs.length).all (allowsB off s) = cs.all (allowsB off s) := by
 have hne : ∀ i, i < cs.length → cs.getD (cs.length - 1 - i) [] ≠ [] ∧ yRow cs sh i ≠ [] := fun i hi => by
  have := (h.2.2.2 _ (List.getElem_mem (show cs.length - 1 - i < cs.length by omega))).1
  have e := getD_at cs (cs.length - 1 - i) (by omega)
  refine ⟨fun e0 => by rw [← e, e0] at this; simp at this, fun e0 => ?_⟩
  have h2 : (yRow cs sh i).length = (cs.getD (cs.length - 1 - i) []).length := by unfold yRow; simp
  rw [e0, e] at h2
  simp at h2
  omega
 have key : ∀ i, i < cs.length → (allowsB off s (yRow cs sh i) = true ↔ allowsB off s (cs.getD (cs.length - 1 - i) []) = true) := fun i hi => by
  obtain ⟨n1, n2⟩ := hne i hi
  obtain ⟨m1, m2⟩ := yRow_mem cs sh i
  exact ⟨fun ha => allows_shift off s (-(if i = 0 then sh else 0)) _ _ hs h.1.1 n2 n1 (fun p hp => by rw [Int.sub_neg]; exact m2 p hp) ha, fun ha => allows_shift off s _ _ _ hs h.1.1 n1 n2 m1 ha⟩
 rw [Bool.eq_iff_iff, List.all_eq_true, List.all_eq_true]
 constructor
 · intro ha l hl
   obtain ⟨c, hc, rfl⟩ := List.getElem_of_mem hl
   have := (key (cs.length - 1 - c) (by omega)).1 (ha _ (List.mem_map.2 ⟨cs.length - 1 - c, List.mem_range.2 (by omega), rfl⟩))
   rwa [show cs.length - 1 - (cs.length - 1 - c) = c by omega, getD_at cs c hc] at this
 · intro ha l hl
   obtain ⟨i, hi, rfl⟩ := List.mem_map.1 hl
   have hi := List.mem_range.1 hi
   refine (key i hi).2 ?_
   rw [getD_at cs _ (by omega)]
   exact ha _ (List.getElem_mem _)
theorem y_steps (off sh : Int) (cs : List (List Int)) (h : Valid off cs) : ∀ (n : Nat) (lo : Int), 0 < lo → stepsFrom off (yAll cs sh cs.length) n lo = stepsFrom off cs n lo
 | 0, _, _ => rfl
 | n + 1, lo, hlo => by unfold stepsFrom; rw [y_same off lo sh cs hlo h, y_steps off sh cs h n (lo + 1) (by omega)]
theorem y_valid (off sh : Int) (cs : List (List Int)) (h : Valid off cs) (h2 : ∀ l ∈ cs, ∀ p ∈ l, p ≤ 3000) (hs : 0 ≤ sh ∧ sh ≤ 65535) : Valid off (yAll cs sh cs.length) := by
 have hl : (yAll cs sh cs.length).length = cs.length := by unfold yAll; simp
 refine ⟨h.1, by rw [hl]; exact h.2.1, by rw [hl]; exact h.2.2.1, fun l hl => ?_⟩
 obtain ⟨i, hi, rfl⟩ := List.mem_map.1 hl
 have hi := List.mem_range.1 hi
 have e := getD_at cs (cs.length - 1 - i) (by omega)
 obtain ⟨g1, g2, g3⟩ := h.2.2.2 _ (List.getElem_mem (show cs.length - 1 - i < cs.length by omega))
 have h4 : (yRow cs sh i).length = (cs.getD (cs.length - 1 - i) []).length := by unfold yRow; simp
 rw [h4, e]
 refine ⟨g1, g2, fun q hq => ?_⟩
 have h5 := (yRow_mem cs sh i).1 q hq
 rw [e] at h5
 have h6 := g3 _ h5
 have h7 := h2 _ (List.getElem_mem _) _ h5
 split at h6 <;> split at h7 <;> omega
/-- Multiplied positions without errors allow the multiplied step. -/
theorem allows_mul (s n : Int) (l : List Int) (hs : 0 < s) (hn : 0 < n) (hl : l ≠ []) (h : allowsB 0 s l = true) : allowsB 0 (n * s) (l.map (n * ·)) = true := by
 obtain ⟨o, h1, h2⟩ := (allows_iff 0 s l hs (Int.le_refl _) hl).1 h
 have hns : 0 < n * s := Int.mul_pos hn hs
 refine (allows_iff 0 (n * s) _ hns (Int.le_refl _) (by simpa using hl)).2 ⟨n * o, ⟨Int.mul_nonneg (by omega) h1.1, Int.mul_lt_mul_of_pos_left h1.2 hn⟩, fun q hq => ?_⟩
 obtain ⟨p, hp, rfl⟩ := List.mem_map.1 hq
 have h3 := h2 p hp
 have h4 := Int.emod_nonneg (o + 0 - p) (b := s) (by omega)
 have e : n * o + 0 - n * p = n * (o + 0 - p) := by rw [Int.mul_sub, Int.add_zero, Int.add_zero]
 rw [e, Int.mul_emod_mul_of_pos _ _ hn, show (o + 0 - p) % s = 0 by omega]
 simp
end Go.Proofs.Ytnbcdbkhpdpjgaa.H
