/- Plain laws of StepClashes: the reference's Clash keeps a least list that excludes the step. -/
import Derived.Test.YtnbcdbkhpdpjgaaHM
import Derived.Test.YtnbcdbkhpdpjgaaHL
import Derived.Test.YtnbcdbkhpdpjgaaQA5
namespace Go.Proofs.Ytnbcdbkhpdpjgaa.H
open Go.RowKit Go.Proofs.YtnbcdbkhpdpjgaaW.PrintWords Go.Proofs.YtnbcdbkhpdpjgaaW.PrintLast Go.Proofs.YtnbcdbkhpdpjgaaW.PrintMore
open Go.Proofs.Ytnbcdbkhpdpjgaa.QA
set_option linter.unusedVariables false
set_option linter.unusedSimpArgs false

theorem mask_succ (i m : Nat) : maskNums (i + 1) m = maskNums i m ++ (if m.testBit i = true then [(i : Int)] else []) := by
  unfold maskNums
  rw [List.range_succ, List.filter_append, List.map_append]
  by_cases h : m.testBit i = true <;> simp [List.filter_cons, h]

theorem mask_len (i m : Nat) : (maskNums i m).length ≤ i := by
  unfold maskNums
  rw [List.length_map]
  have := List.length_filter_le (fun j => m.testBit j) (List.range i)
  simpa using this

theorem mask_in (n m : Nat) : ∀ x ∈ maskNums n m, 0 ≤ x ∧ x < (n : Int) := fun x hx => numsTo_in n x ((mask_sub n m).subset hx)

theorem mask_ne (n m : Nat) (h1 : 1 ≤ m) (h2 : m < 2 ^ n) : maskNums n m ≠ [] := by
  obtain ⟨i, hi⟩ := Nat.exists_testBit_of_ne_zero (show m ≠ 0 by omega)
  have hlt : i < n := by
    refine Nat.lt_of_not_le fun hle => ?_
    have := Nat.testBit_lt_two_pow (x := m) (i := i) (Nat.lt_of_lt_of_le h2 (Nat.pow_le_pow_right (by decide) hle))
    rw [hi] at this; cases this
  intro e
  have : (i : Int) ∈ maskNums n m := List.mem_map.2 ⟨i, List.mem_filter.2 ⟨List.mem_range.2 hlt, hi⟩, rfl⟩
  rw [e] at this; cases this

theorem bit_of (m i : Nat) (hm : m < 4096) (hi : i < 12) : (Go.bits .and .i64 (shr .i64 (m : Int) (i : Int)) 1 = 1) ↔ m.testBit i = true := by
  have e1 : shr .i64 (m : Int) (i : Int) = ((m / 2 ^ i : Nat) : Int) := by
    unfold shr
    rw [Int.toNat_natCast, Nat.min_eq_left (show i ≤ IntKind.i64.bits from by show i ≤ 64; omega)]
    simp
  have hle : m / 2 ^ i ≤ m := Nat.div_le_self _ _
  have e2 := (bits_nat .i64 62 (by decide) (fun n h0 h1 => by rw [IntKind.wrap_i64]; omega) (m / 2 ^ i) 1 (by omega) (by decide)).1
  rw [e1, show (1 : Int) = ((1 : Nat) : Int) from rfl, e2, Nat.and_one_is_mod, Nat.testBit_eq_decide_div_mod_eq, decide_eq_true_iff]
  omega

theorem shl_of : ∀ n : Nat, n ≤ 12 → shl .i64 1 (n : Int) = ((2 ^ n : Nat) : Int)
  | 0, _ => by decide +kernel
  | 1, _ => by decide +kernel
  | 2, _ => by decide +kernel
  | 3, _ => by decide +kernel
  | 4, _ => by decide +kernel
  | 5, _ => by decide +kernel
  | 6, _ => by decide +kernel
  | 7, _ => by decide +kernel
  | 8, _ => by decide +kernel
  | 9, _ => by decide +kernel
  | 10, _ => by decide +kernel
  | 11, _ => by decide +kernel
  | 12, _ => by decide +kernel
  | n + 13, h => by omega

def better (off s : Int) (l out : List Int) (m : Nat) : List Int :=
  if (out.length = 0 ∨ (maskNums l.length m).length < out.length) ∧ excl off s l (maskNums l.length m) = true then maskNums l.length m else out

theorem rclash1 (off : Int) (ls : List (List Int)) (l out : List Int) (s : Int) (hs : 0 < s) (hs2 : s ≤ 1000) (h1 : 0 ≤ off ∧ off ≤ 1000) (h2 : ∀ p ∈ l, 0 ≤ p ∧ p ≤ 1000000) (hl : l.length ≤ 12) (m : Nat) (hm : 1 ≤ m) (hm2 : m < 2 ^ l.length) :
    ∀ n (i : Nat), l.length = i + n → ∀ k, 3000 ≤ k → pianolaref01_Clash.l1 (k + n + 1) s l out (m : Int) (maskNums i m) (chosenS l (maskNums i m)) (i : Int) off ls = pianolaref01_Clash.l0 k s l (better off s l out m) ((m + 1 : Nat) : Int) off ls
  | 0, i, hi, k, hk => by
    have hm3 : m < 4096 := Nat.lt_of_lt_of_le hm2 (Nat.pow_le_pow_right (n := 2) (by decide) hl)
    have hi' : i = l.length := by omega
    subst hi'
    have hne : chosenS l (maskNums l.length m) ≠ [] := by
      intro e
      have := chosen_length l (maskNums l.length m)
      rw [e] at this
      exact mask_ne l.length m hm hm2 (List.length_eq_zero_iff.1 this.symm)
    have hml := mask_len l.length m
    have hO := roffsW_f off ls (chosenS l (maskNums l.length m)) s hs hs2 h1 (chosen_in l _ (mask_in l.length m) _ h2) (by rw [chosen_length]; omega) k (by omega)
    have eE : excl off s l (maskNums l.length m) = decide (((offsOf off s (chosenS l (maskNums l.length m))).length : Int) = 0) := by
      unfold excl
      rw [allows_offs off s _ hs hne]
      by_cases h : (offsOf off s (chosenS l (maskNums l.length m))).length > 0
      · rw [decide_eq_true h, decide_eq_false (by omega)]; rfl
      · rw [decide_eq_false h, decide_eq_true (by omega)]; rfl
    rw [pianolaref01_Clash.l1, if_neg (by omega), hO, Option.bind_some, next64 m 4096 hm3 (by omega)]
    unfold better
    rw [eE]
    generalize offsOf off s (chosenS l (maskNums l.length m)) = os
    by_cases ho : out.length = 0
    · rw [if_pos (by omega)]
      by_cases hq : (os.length : Int) = 0
      · rw [if_pos hq, if_pos ⟨Or.inl ho, decide_eq_true hq⟩]
      · rw [if_neg hq, if_neg (fun h => hq (of_decide_eq_true h.2))]
    · rw [if_neg (by omega)]
      by_cases hb : (maskNums l.length m).length < out.length
      · rw [if_pos (by omega)]
        by_cases hq : (os.length : Int) = 0
        · rw [if_pos hq, if_pos ⟨Or.inr hb, decide_eq_true hq⟩]
        · rw [if_neg hq, if_neg (fun h => hq (of_decide_eq_true h.2))]
      · rw [if_neg (by omega), if_neg (fun h => h.1.elim ho hb)]
  | n + 1, i, hi, k, hk => by
    have hm3 : m < 4096 := Nat.lt_of_lt_of_le hm2 (Nat.pow_le_pow_right (n := 2) (by decide) hl)
    have hlt : i < l.length := by omega
    have ih := rclash1 off ls l out s hs hs2 h1 h2 hl m hm hm2 n (i + 1) (by omega) k hk
    have hml := mask_len i m
    have hcl := chosen_length l (maskNums i m)
    have hb := bit_of m i hm3 (by omega)
    rw [mask_succ] at ih
    rw [show k + (n + 1) + 1 = (k + n + 1) + 1 from rfl, pianolaref01_Clash.l1, if_pos (by omega), if_pos (by omega), next64 i l.length hlt (by omega)]
    by_cases h : m.testBit i = true
    · rw [if_pos h] at ih
      rw [if_pos (hb.2 h)]
      simp only [Option.bind_some, List.length_singleton]
      rw [if_pos (by omega), if_pos (by omega)]
      have e : chosenS l (maskNums i m ++ [(i : Int)]) = chosenS l (maskNums i m) ++ [rd l (i : Int)] := by unfold chosenS; rw [List.map_append]; rfl
      rw [e] at ih
      exact ih
    · rw [if_neg h, List.append_nil] at ih
      rw [if_neg (fun q => h (hb.1 q))]
      exact ih

def Kept (off s : Int) (l : List Int) (m : Nat) (out : List Int) : Prop :=
  (out = [] ∧ ∀ m', 1 ≤ m' → m' < m → excl off s l (maskNums l.length m') = false) ∨
  (out ≠ [] ∧ excl off s l out = true ∧ out.Sublist (numsTo l.length) ∧ ∀ m', 1 ≤ m' → m' < m → excl off s l (maskNums l.length m') = true → out.length ≤ (maskNums l.length m').length)

theorem kept_step (off s : Int) (l out : List Int) (m : Nat) (hm : 1 ≤ m) (hm2 : m < 2 ^ l.length) (h : Kept off s l m out) : Kept off s l (m + 1) (better off s l out m) := by
  unfold better
  have hne := mask_ne l.length m hm hm2
  by_cases hc : (out.length = 0 ∨ (maskNums l.length m).length < out.length) ∧ excl off s l (maskNums l.length m) = true
  · rw [if_pos hc]
    refine Or.inr ⟨hne, hc.2, mask_sub _ _, fun m' h1 h2 h3 => ?_⟩
    by_cases e : m' = m
    · rw [e]; exact Nat.le_refl _
    · rcases h with ⟨h4, h5⟩ | ⟨h4, h5, h6, h7⟩
      · have := h5 m' h1 (by omega); rw [h3] at this; cases this
      · have h8 := h7 m' h1 (by omega) h3
        rcases hc.1 with h9 | h9
        · exact absurd (List.length_eq_zero_iff.1 h9) h4
        · omega
  · rw [if_neg hc]
    rcases h with ⟨h4, h5⟩ | ⟨h4, h5, h6, h7⟩
    · refine Or.inl ⟨h4, fun m' h1 h2 => ?_⟩
      by_cases e : m' = m
      · subst e
        cases hq : excl off s l (maskNums l.length m') with
        | false => rfl
        | true => exact absurd ⟨Or.inl (by rw [h4]; rfl), hq⟩ hc
      · exact h5 m' h1 (by omega)
    · refine Or.inr ⟨h4, h5, h6, fun m' h1 h2 h3 => ?_⟩
      by_cases e : m' = m
      · subst e
        refine Nat.le_of_not_lt fun hlt => hc ⟨Or.inr hlt, h3⟩
      · exact h7 m' h1 (by omega) h3

theorem rclash0 (off : Int) (ls : List (List Int)) (l : List Int) (s : Int) (hs : 0 < s) (hs2 : s ≤ 1000) (h1 : 0 ≤ off ∧ off ≤ 1000) (h2 : ∀ p ∈ l, 0 ≤ p ∧ p ≤ 1000000) (hl : l.length ≤ 12) :
    ∀ d (m : Nat), 2 ^ l.length = m + d → 1 ≤ m → ∀ out, Kept off s l m out → ∀ k, 3000 + 20 * d + 1 ≤ k → ∃ out', Kept off s l (2 ^ l.length) out' ∧ pianolaref01_Clash.l0 k s l out (m : Int) off ls = some (if out'.length = 0 then ([], 8) else (out', 0))
  | 0, m, hd, hm, out, hK, k + 1, hk => by
    refine ⟨out, by rw [hd]; exact hK, ?_⟩
    rw [pianolaref01_Clash.l0, shl_of _ hl, if_neg (by omega)]
    by_cases h : out.length = 0
    · rw [if_pos (by omega), if_pos h]
    · rw [if_neg (by omega), if_neg h]
  | d + 1, m, hd, hm, out, hK, k + 1, hk => by
    obtain ⟨k', rfl⟩ : ∃ k', k = k' + l.length + 1 := ⟨k - l.length - 1, by omega⟩
    have h3 := rclash1 off ls l out s hs hs2 h1 h2 hl m hm (by omega) l.length 0 (by omega) k' (by omega)
    rw [show maskNums 0 m = [] from rfl, show chosenS l [] = [] from rfl, Int.natCast_zero] at h3
    rw [pianolaref01_Clash.l0, shl_of _ hl, if_pos (by omega), h3]
    exact rclash0 off ls l s hs hs2 h1 h2 hl d (m + 1) (by omega) (by omega) _ (kept_step off s l out m hm (by omega) hK) k' (by omega)

end Go.Proofs.Ytnbcdbkhpdpjgaa.H
