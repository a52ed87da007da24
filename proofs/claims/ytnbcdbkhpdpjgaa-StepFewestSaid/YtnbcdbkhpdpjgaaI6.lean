/- Plain laws of StepFewest: a clash is shortest, and what Verify says of numbers in order. -/
import Derived.Test.YtnbcdbkhpdpjgaaI3
import Derived.Test.YtnbcdbkhpdpjgaaHO
namespace Go.Proofs.Ytnbcdbkhpdpjgaa.H
open Go.RowKit Go.Proofs.YtnbcdbkhpdpjgaaW.PrintWords Go.Proofs.YtnbcdbkhpdpjgaaW.PrintLast Go.Proofs.YtnbcdbkhpdpjgaaW.PrintMore
open Go.Proofs.Ytnbcdbkhpdpjgaa.QA
set_option linter.unusedVariables false
set_option linter.unusedSimpArgs false

theorem valid_row {off : Int} {cs : List (List Int)} (h : Valid off cs) (i : Int) (hi : 0 ≤ i ∧ i < cs.length) : (0 < (rd_L1 cs i).length ∧ (rd_L1 cs i).length ≤ 12) ∧ ∀ p ∈ rd_L1 cs i, 0 ≤ p ∧ p ≤ 1000000 := by
 have hv := h.2.2.2 _ (row_mem (ls := cs) (a1 := i) hi)
 exact ⟨⟨hv.1, hv.2.1⟩, hv.2.2⟩
/-- No clash where an offset is. -/
theorem clash_none {off : Int} {cs : List (List Int)} (h : Valid off cs) (i s : Int) (hi : 0 ≤ i ∧ i < cs.length) (hs : 1 ≤ s ∧ s ≤ 1000) (hA : allowsB off s (rd_L1 cs i) = true) : step_Clash.f off cs i s = some ([], 8) := by
 obtain ⟨v1, v2⟩ := valid_row h i hi
 have ho := h.1
 unfold step_Clash.f
 rw [asked_of h i s hi hs, Option.bind_some, if_pos rfl, if_pos ⟨by omega, by omega, v2, v1.1, by show (rd_L1 cs i).length ≤ 1000; omega⟩, if_pos hA]
/-- The clash where none is. -/
theorem clash_some {off : Int} {cs : List (List Int)} (h : Valid off cs) (i s : Int) (hi : 0 ≤ i ∧ i < cs.length) (hs : 1 ≤ s ∧ s ≤ 1000) (hA : allowsB off s (rd_L1 cs i) = false) :
  ∃ C, step_Clash.f off cs i s = some (C, 0) ∧ C.Sublist (numsTo (rd_L1 cs i).length) ∧ C ≠ [] ∧ excl off s (rd_L1 cs i) C = true ∧ ∀ sub, sub.Sublist (numsTo (rd_L1 cs i).length) → sub ≠ [] → excl off s (rd_L1 cs i) sub = true → C.length ≤ sub.length := by
 obtain ⟨v1, v2⟩ := valid_row h i hi
 have ho := h.1
 have hne : numsTo (rd_L1 cs i).length ≠ [] := fun e => by have := numsTo_length (rd_L1 cs i).length; rw [e] at this; simp at this; omega
 have hw : excl off s (rd_L1 cs i) (numsTo (rd_L1 cs i).length) = true := by unfold excl; rw [chosen_all, hA]; rfl
 obtain ⟨C, c1, c2, c3, c4, c5⟩ := clash_min (excl off s (rd_L1 cs i)) (numsTo (rd_L1 cs i).length) hne hw (rd_L1 cs i).length 1 (Nat.le_refl _) (by rw [numsTo_length]; omega) (fun sub _ hn hl => absurd (List.length_pos_iff.2 hn) (by omega))
 refine ⟨C, ?_, c2, c3, c4, c5⟩
 unfold step_Clash.f
 rw [asked_of h i s hi hs, Option.bind_some, if_pos rfl, if_pos ⟨by omega, by omega, v2, v1.1, by show (rd_L1 cs i).length ≤ 1000; omega⟩, if_neg (by show ¬ allowsB off s (rd_L1 cs i) = true; rw [hA]; simp)]
 show some (clashFrom (excl off s (rd_L1 cs i)) (numsTo (rd_L1 cs i).length) (rd_L1 cs i).length 1, (0 : Int)) = _
 rw [c1]
/-- Verify of numbers in order. -/
theorem verify_nums {off : Int} {cs : List (List Int)} (h : Valid off cs) (i s : Int) (hi : 0 ≤ i ∧ i < cs.length) (hs : 1 ≤ s ∧ s ≤ 1000) (m : List Int) (hm : m.Sublist (numsTo (rd_L1 cs i).length)) (hne : m ≠ []) : step_Verify.f 3000 off cs i s m = some (if excl off s (rd_L1 cs i) m = true then 0 else 14) := by
 obtain ⟨v1, v2⟩ := valid_row h i hi
 have ho := h.1
 have hml := hm.length_le
 rw [numsTo_length] at hml
 have hin : ∀ x ∈ m, 0 ≤ x ∧ x < ((rd_L1 cs i).length : Int) := fun x hx => numsTo_in _ x (hm.subset hx)
 obtain ⟨e, h1, _, h3⟩ := verify_same off cs i s m (by omega) 3000 (by omega)
 have h4 := h3 (rd_L1 cs i) ⟨by omega, by omega, ⟨by omega, by omega⟩, by have := h.2.2.1; omega, rfl, by omega, by omega, v2⟩ (asked_of h i s hi hs)
 rw [h1, h4]
 unfold verOf
 rw [if_neg (fun e0 => hne (List.length_eq_zero_iff.1 e0)), ver_sorted off s _ _ (by omega) _ (-1) ((nums_sorted _).sublist hm) hin (fun x hx => by have := hin x hx; omega)]
 unfold excl
 cases allowsB off s (chosenS (rd_L1 cs i) m) <;> rfl
/-- All offsets tried, for some positions. -/
theorem excl_try (off s : Int) (l m : List Int) (hs : 0 < s) (ho : 0 ≤ off) (hm : m ≠ []) : excl off s l m = ((List.range s.toNat).all fun t : Nat => !(m.all fun k => fitB off s (t : Int) (rd l k))) := by
 unfold excl
 have hne : chosenS l m ≠ [] := fun e => hm (List.length_eq_zero_iff.1 (by have := chosen_length l m; rw [e] at this; simpa using this.symm))
 rw [Bool.eq_iff_iff, Bool.not_eq_true', List.all_eq_true]
 have ha := allows_iff off s (chosenS l m) hs ho hne
 constructor
 · intro hf t ht
   rw [Bool.not_eq_true']
   cases hb : (m.all fun k => fitB off s (t : Int) (rd l k)) with
   | false => rfl
   | true =>
     have : allowsB off s (chosenS l m) = true := ha.2 ⟨t, ⟨by omega, by have := List.mem_range.1 ht; omega⟩, fun p hp => by
      obtain ⟨k, hk, rfl⟩ := List.mem_map.1 hp
      have := List.all_eq_true.1 hb k hk
      rw [fit_mod off s _ _ hs] at this
      exact of_decide_eq_true this⟩
     rw [this] at hf
     cases hf
 · intro hall
   cases hb : allowsB off s (chosenS l m) with
   | false => rfl
   | true =>
     obtain ⟨o, ⟨h0, h1⟩, hp⟩ := ha.1 hb
     have := hall o.toNat (List.mem_range.2 (by omega))
     rw [Bool.not_eq_true', show ((o.toNat : Nat) : Int) = o by omega] at this
     have h2 : (m.all fun k => fitB off s o (rd l k)) = true := List.all_eq_true.2 fun k hk => by
      rw [fit_mod off s _ _ hs]
      exact decide_eq_true (hp _ (List.mem_map.2 ⟨k, hk, rfl⟩))
     rw [h2] at this
     cases this
end Go.Proofs.Ytnbcdbkhpdpjgaa.H
