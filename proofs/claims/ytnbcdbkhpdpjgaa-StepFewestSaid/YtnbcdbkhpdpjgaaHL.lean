/- Plain laws of StepClashes: Verify, as the reference has it. -/
import Derived.Test.YtnbcdbkhpdpjgaaHQ
import Derived.Test.YtnbcdbkhpdpjgaaH9
import Derived.Test.YtnbcdbkhpdpjgaaQA9
import Derived.Test.YtnbcdbkhpdpjgaaQA6
namespace Go.Proofs.Ytnbcdbkhpdpjgaa.H
open Go.RowKit Go.Proofs.YtnbcdbkhpdpjgaaW.PrintWords Go.Proofs.YtnbcdbkhpdpjgaaW.PrintLast Go.Proofs.YtnbcdbkhpdpjgaaW.PrintMore
open Go.Proofs.Ytnbcdbkhpdpjgaa.QA
set_option linter.unusedVariables false
set_option linter.unusedSimpArgs false

/-! the reference's offsets of up to 100 positions -/
theorem roffsW (off : Int) (ls : List (List Int)) (l : List Int) (s : Int) (hs : 0 < s) (hs2 : s ≤ 1000000) (h1 : 0 ≤ off ∧ off ≤ 1000) (h2 : ∀ p ∈ l, 0 ≤ p ∧ p ≤ 1000000) (hl : l.length ≤ 100) :
    ∀ n (i : Nat), s.toNat = i + n → ∀ k, n + 130 ≤ k → pianolaref01_offsets.l0 k l s (offsTo (arcsOf off s l) s i) (i : Int) off ls = some (offsOf off s l)
  | 0, i, hi, k + 1, hk => by
    rw [pianolaref01_offsets.l0, if_neg (by omega)]
    unfold offsOf
    rw [show i = s.toNat by omega]
  | n + 1, i, hi, k + 1, hk => by
    have ih := roffsW off ls l s hs hs2 h1 h2 hl n (i + 1) (by omega) k (by omega)
    have hle := offsTo_length (arcsOf off s l) s i
    have hf : pianolaref01_fits.f k off ls l s (i : Int) = some (l.all (fitB off s i)) := by
      unfold pianolaref01_fits.f
      exact rfits off ls l s i hs h1 h2 (by omega) (by omega) l.length 0 (by omega) k (by omega)
    rw [pianolaref01_offsets.l0, if_pos (by omega), hf, Option.bind_some, ← offsB_fits off s i l hs h1.1, next64 i s.toNat (by omega) (by omega)]
    rw [offsTo_succ] at ih
    by_cases h : offsB (arcsOf off s l) s (i : Int) = true
    · rw [if_pos h, if_pos (by omega)]; rw [if_pos h] at ih; exact ih
    · rw [if_neg h]; rw [if_neg h, List.append_nil] at ih; exact ih
theorem roffsW_f (off : Int) (ls : List (List Int)) (l : List Int) (s : Int) (hs : 0 < s) (hs2 : s ≤ 1000) (h1 : 0 ≤ off ∧ off ≤ 1000) (h2 : ∀ p ∈ l, 0 ≤ p ∧ p ≤ 1000000) (hl : l.length ≤ 100) (k : Nat) (hk : 2000 ≤ k) :
    pianolaref01_offsets.f k off ls l s = some (offsOf off s l) := by
  unfold pianolaref01_offsets.f
  exact roffsW off ls l s hs (by omega) h1 h2 hl s.toNat 0 (by omega) k (by omega)

/-! Verify -/
def verFrom (off s : Int) (l all : List Int) : Int → List Int → Int
  | _, [] => if allowsB off s (chosenS l all) = true then 14 else 0
  | prev, h :: r => if isIn 0 h ((l.length : Int) - 1) = false then 8 else if h ≤ prev then 7 else verFrom off s l all h r

theorem chosen_in (l holes : List Int) (hh : ∀ i ∈ holes, 0 ≤ i ∧ i < l.length) (P : Int → Prop) (hP : ∀ p ∈ l, P p) : ∀ p ∈ chosenS l holes, P p := by
  intro p hp
  obtain ⟨i, hi, rfl⟩ := List.mem_map.1 hp
  obtain ⟨h0, h1⟩ := hh i hi
  have hlt : i.toNat < l.length := by omega
  unfold rd
  rw [List.getD_eq_getElem?_getD, List.getElem?_eq_getElem hlt]
  exact hP _ (List.getElem_mem hlt)
theorem chosen_length (l holes : List Int) : (chosenS l holes).length = holes.length := by unfold chosenS; simp

theorem chosen_more (l holes : List Int) (hh : ∀ i ∈ holes, 0 ≤ i ∧ i < l.length) (hl : holes.length ≤ 100000) (k : Nat) (hk : holes.length + 1 ≤ k) : step_chosen.f k l holes = some (chosenS l holes) := by
  obtain ⟨m, rfl⟩ : ∃ m, k = holes.length + 1 + m := ⟨k - (holes.length + 1), by omega⟩
  clear hk
  induction m with
  | zero => exact chosen_spec l holes hh hl
  | succ m ih => exact step_chosen.mono _ _ _ _ ih

theorem sver (off : Int) (ls : List (List Int)) (l holes : List Int) (s : Int) (hs : 0 < s) (hs2 : s ≤ 1000) (h1 : 0 ≤ off ∧ off ≤ 1000) (h2 : ∀ p ∈ l, 0 ≤ p ∧ p ≤ 1000000) (hl : 0 < l.length ∧ l.length ≤ 12) (hh : holes.length ≤ 40) :
    ∀ n (i : Nat), holes.length = i + n → (∀ j : Nat, j < i → ∀ h : j < holes.length, 0 ≤ holes[j] ∧ holes[j] < l.length) → ∀ k, n + 100 ≤ k → ∀ prev,
      step_Verify.l0 k s holes l prev holes (holes.length : Int) (i : Int) off ls = some (verFrom off s l holes prev (holes.drop i))
  | 0, i, hi, hj, k + 1, hk, prev => by
    have hall : ∀ x ∈ holes, 0 ≤ x ∧ x < l.length := by
      intro x hx
      obtain ⟨j, hj', rfl⟩ := List.getElem_of_mem hx
      exact hj j (by omega) hj'
    rw [step_Verify.l0, if_neg (by omega), List.drop_eq_nil_of_le (by omega), chosen_more l holes hall (by omega) k (by omega), Option.bind_some]
    unfold step_Sheet_allows.f
    rw [if_pos ⟨⟨by omega, by omega⟩, h1, chosen_in l holes hall _ h2, by rw [chosen_length]; omega⟩, Option.bind_some, verFrom]
    cases allowsB off s (chosenS l holes) <;> rfl
  | n + 1, i, hi, hj, k + 1, hk, prev => by
    have hlt : i < holes.length := by omega
    rw [step_Verify.l0, if_pos (by omega), if_pos (by omega), if_pos (by omega), rd_nat _ _ hlt, between_f, w64 ((l.length : Int) - 1) (by omega) (by omega), Option.bind_some, List.drop_eq_getElem_cons hlt, verFrom, next64 i holes.length hlt (by omega)]
    cases hb : isIn 0 holes[i] ((l.length : Int) - 1) with
    | false => rfl
    | true =>
      have hx : 0 ≤ holes[i] ∧ holes[i] ≤ (l.length : Int) - 1 := by unfold isIn at hb; simpa using hb
      rw [if_pos rfl, if_neg (show ¬ (true = false) from Bool.noConfusion)]
      by_cases hp : holes[i] ≤ prev
      · rw [if_pos hp, if_pos hp]
      · rw [if_neg hp, if_neg hp]
        exact sver off ls l holes s hs hs2 h1 h2 hl hh n (i + 1) (by omega) (fun j hj1 h => by
          by_cases e : j = i
          · subst e; exact ⟨hx.1, by omega⟩
          · exact hj j (by omega) h) k (by omega) _

theorem chosen_take (l holes : List Int) (i : Nat) (h : i < holes.length) : chosenS l (holes.take (i + 1)) = chosenS l (holes.take i) ++ [rd l holes[i]] := by
  unfold chosenS
  rw [List.take_succ_eq_append_getElem h, List.map_append]; rfl

theorem rver (off : Int) (ls : List (List Int)) (l holes : List Int) (a1 s : Int) (hs : 0 < s) (hs2 : s ≤ 1000) (h1 : 0 ≤ off ∧ off ≤ 1000) (h2 : ∀ p ∈ l, 0 ≤ p ∧ p ≤ 1000000) (hl : 0 < l.length ∧ l.length ≤ 12) (hh : holes.length ≤ 40) (h0 : holes ≠ [])
    (ha : 0 ≤ a1 ∧ a1 < ls.length) (he : l = rd_L1 ls a1) :
    ∀ n (i : Nat), holes.length = i + n → (∀ j : Nat, j < i → ∀ h : j < holes.length, 0 ≤ holes[j] ∧ holes[j] < l.length) → ∀ k, n + 2500 ≤ k → ∀ prev, (∀ _ : 0 < i, ∀ h : i - 1 < holes.length, prev = holes[i - 1]) → (i = 0 → prev = -1) →
      pianolaref01_Verify.l0 k a1 s holes (chosenS l (holes.take i)) (i : Int) off ls = some (verFrom off s l holes prev (holes.drop i))
  | 0, i, hi, hj, k + 1, hk, prev, hp1, hp0 => by
    have hall : ∀ x ∈ holes, 0 ≤ x ∧ x < l.length := by
      intro x hx
      obtain ⟨j, hj', rfl⟩ := List.getElem_of_mem hx
      exact hj j (by omega) hj'
    have hne : chosenS l holes ≠ [] := by
      intro e
      have := chosen_length l holes
      rw [e] at this
      exact h0 (List.length_eq_zero_iff.1 this.symm)
    have eA := allows_offs off s (chosenS l holes) hs hne
    rw [pianolaref01_Verify.l0, if_neg (by omega), List.drop_eq_nil_of_le (by omega), List.take_of_length_le (by omega), roffsW_f off ls (chosenS l holes) s hs hs2 h1 (chosen_in l holes hall _ h2) (by rw [chosen_length]; omega) k (by omega), Option.bind_some, verFrom, eA]
    by_cases hq : (offsOf off s (chosenS l holes)).length > 0
    · rw [if_pos (by omega), decide_eq_true hq]; rfl
    · rw [if_neg (by omega), decide_eq_false hq]; rfl
  | n + 1, i, hi, hj, k + 1, hk, prev, hp1, hp0 => by
    have hlt : i < holes.length := by omega
    have ih := fun hj' => rver off ls l holes a1 s hs hs2 h1 h2 hl hh h0 ha he n (i + 1) (by omega) hj' k (by omega) holes[i] (fun _ _ => rfl) (fun e => by omega)
    have hcl : (chosenS l (holes.take i)).length = i := by rw [chosen_length, List.length_take]; omega
    rw [pianolaref01_Verify.l0, if_pos (by omega), if_pos (by omega), if_pos ha.1, if_pos ha.2, ← he, rd_nat _ _ hlt, is_f, w64 ((l.length : Int) - 1) (by omega) (by omega), Option.bind_some, List.drop_eq_getElem_cons hlt, verFrom, next64 i holes.length hlt (by omega)]
    cases hb : isIn 0 holes[i] ((l.length : Int) - 1) with
    | false => rfl
    | true =>
      have hx : 0 ≤ holes[i] ∧ holes[i] ≤ (l.length : Int) - 1 := by unfold isIn at hb; simpa using hb
      have ih := ih (fun j hj1 h => by
          by_cases e : j = i
          · subst e; exact ⟨hx.1, by omega⟩
          · exact hj j (by omega) h)
      rw [chosen_take l holes i hlt] at ih
      rw [if_pos rfl, if_neg (show ¬ (true = false) from Bool.noConfusion)]
      by_cases hi0 : (i : Int) > 0
      · rw [if_pos hi0, w64 ((i : Int) - 1) (by omega) (by omega), if_pos (by omega), if_pos (by omega)]
        have hi1 : i - 1 < holes.length := by omega
        have e1 : rd holes ((i : Int) - 1) = holes[i - 1] := by rw [show (i : Int) - 1 = ((i - 1 : Nat) : Int) by omega, rd_nat _ _ hi1]
        rw [e1, ← hp1 (by omega) hi1]
        by_cases hp : holes[i] ≤ prev
        · rw [if_pos hp, if_pos hp]
        · rw [if_neg hp, if_neg hp, if_pos hx.1, if_pos (by omega), if_pos (by omega)]
          exact ih
      · have hp := hp0 (by omega)
        rw [if_neg hi0, if_neg (show ¬ holes[i] ≤ prev by omega), if_pos hx.1, if_pos (by omega), if_pos (by omega)]
        exact ih

def verOf (off s : Int) (l holes : List Int) : Int := if holes.length = 0 then 4 else verFrom off s l holes (-1) holes

theorem verify_same (a : Int) (ls : List (List Int)) (a1 a2 : Int) (holes : List Int) (hh : holes.length ≤ 40) (k : Nat) (hk : 3000 ≤ k) : ∃ e, step_Verify.f k a ls a1 a2 holes = some e ∧ pianolaref01_Verify.f k a ls a1 a2 holes = some e ∧ ∀ l, Asked a ls a1 a2 l → step_Sheet_asked.f a ls a1 a2 = some (l, 0) → e = verOf a a2 l holes := by
  unfold step_Verify.f pianolaref01_Verify.f
  rcases asked_cases a ls a1 a2 k (by omega) with ⟨l, ⟨h1, h2, h3, h4, h5, h6, h7, h8⟩, e1, e2⟩ | ⟨e, he, e1, e2⟩
  · rw [e1, e2]
    simp only [Option.bind_some, if_true]
    have huniq : ∀ l', some (l, (0 : Int)) = some (l', 0) → l' = l := fun l' h => (Prod.mk.inj (Option.some.inj h)).1.symm
    by_cases h0 : holes.length = 0
    · rw [if_pos (by omega), if_pos (by omega)]
      exact ⟨_, rfl, rfl, fun l' _ h => by rw [huniq l' h, verOf, if_pos h0]⟩
    · rw [if_neg (by omega), if_neg (by omega)]
      have hS := sver a ls l holes a2 (by omega) h2.2 ⟨h1.1, by omega⟩ h8 ⟨h6, h7⟩ hh holes.length 0 (by omega) (fun j hj => by omega) k (by omega) (-1)
      have hR := rver a ls l holes a1 a2 (by omega) h2.2 ⟨h1.1, by omega⟩ h8 ⟨h6, h7⟩ hh (fun e => h0 (by rw [e]; rfl)) h3 h5 holes.length 0 (by omega) (fun j hj => by omega) k (by omega) (-1) (fun h => by omega) (fun _ => rfl)
      rw [Int.natCast_zero, List.drop_zero] at hS hR
      rw [List.take_zero] at hR
      refine ⟨_, hS, hR, fun l' _ h => by rw [huniq l' h, verOf, if_neg h0]⟩
  · rw [e1, e2]
    simp only [Option.bind_some, if_neg he]
    exact ⟨e, rfl, rfl, fun l' _ h => absurd (Prod.mk.inj (Option.some.inj h)).2 he⟩

end Go.Proofs.Ytnbcdbkhpdpjgaa.H
