/- Plain laws of StepClashes: step's search finds a least list that excludes; each list of numbers has its mask. -/
import Derived.Test.YtnbcdbkhpdpjgaaHA
import Derived.Test.YtnbcdbkhpdpjgaaHC
namespace Go.Proofs.Ytnbcdbkhpdpjgaa.H
open Go.RowKit Go.Proofs.YtnbcdbkhpdpjgaaW.PrintWords Go.Proofs.YtnbcdbkhpdpjgaaW.PrintLast Go.Proofs.YtnbcdbkhpdpjgaaW.PrintMore
open Go.Proofs.Ytnbcdbkhpdpjgaa.QA
set_option linter.unusedVariables false
set_option linter.unusedSimpArgs false

theorem srch_some (k : Nat) (h : List Int → Bool) : ∀ (rest b r : List Int), srchLoop k h b rest = some r → ∃ sub, sub.Sublist rest ∧ r = b ++ sub ∧ h r = true := by
  intro rest
  induction rest with
  | nil => intro b r h1; cases h1
  | cons x rs ih =>
    intro b r h1
    rw [srchLoop] at h1
    split at h1
    · rename_i r' e
      obtain rfl := Option.some.inj h1
      split at e
      · split at e
        · rename_i hh
          obtain rfl := Option.some.inj e
          exact ⟨[x], by simp, rfl, hh⟩
        · cases e
      · obtain ⟨sub, hs, hr, hh⟩ := ih _ _ e
        exact ⟨x :: sub, hs.cons_cons x, by rw [hr, List.append_assoc]; rfl, hh⟩
    · obtain ⟨sub, hs, hr, hh⟩ := ih _ _ h1
      exact ⟨sub, hs.cons x, hr, hh⟩

theorem srch_none (k : Nat) (h : List Int → Bool) : ∀ (rest b : List Int), srchLoop k h b rest = none → ∀ sub, sub.Sublist rest → sub ≠ [] → (b ++ sub).length = k → h (b ++ sub) = false := by
  intro rest
  induction rest with
  | nil => intro b _ sub hs h0 _; exact absurd (List.sublist_nil.1 hs) h0
  | cons x rs ih =>
    intro b h1 sub hs h0 hk
    rw [srchLoop] at h1
    split at h1
    · cases h1
    · rename_i e
      cases hs with
      | cons _ hs => exact ih _ h1 _ hs h0 hk
      | cons_cons _ hs =>
        rename_i s'
        split at e
        · rename_i hl
          have : s' = [] := by
            simp at hk hl
            exact List.length_eq_zero_iff.1 (by omega)
          subst this
          split at e
          · cases e
          · rename_i hh; simpa using hh
        · rename_i hl
          have h2 : s' ≠ [] := by
            rintro rfl
            exact hl hk
          have := ih (b ++ [x]) e s' hs h2 (by rw [List.append_assoc]; exact hk)
          rwa [List.append_assoc] at this

/-- The search by size finds a least list that excludes. -/
theorem clash_min (h : List Int → Bool) (nums : List Int) (hn : nums ≠ []) (hw : h nums = true) : ∀ (n k : Nat), 1 ≤ k → nums.length + 1 = k + n → (∀ sub, sub.Sublist nums → sub ≠ [] → sub.length < k → h sub = false) →
    ∃ r, clashFrom h nums n k = r ∧ r.Sublist nums ∧ r ≠ [] ∧ h r = true ∧ ∀ sub, sub.Sublist nums → sub ≠ [] → h sub = true → r.length ≤ sub.length
  | 0, k, hk, hl, hs => by
    have := hs nums (List.Sublist.refl _) hn (by omega)
    rw [hw] at this; cases this
  | n + 1, k, hk, hl, hs => by
    have e : srch k h [] nums = srchLoop k h [] nums := by
      unfold srch; rw [if_neg (by simp; omega)]
    rw [clashFrom, e]
    cases hr : srchLoop k h [] nums with
    | some r =>
      obtain ⟨sub, h1, h2, h3⟩ := srch_some k h nums [] r hr
      rw [List.nil_append] at h2
      subst h2
      have hlen := srchLoop_length k h nums [] r hr
      refine ⟨r, rfl, h1, fun e => by rw [e] at hlen; simp at hlen; omega, h3, fun s hs1 hs2 hs3 => ?_⟩
      rw [hlen]
      refine Nat.le_of_not_lt fun hlt => ?_
      have := hs s hs1 hs2 hlt
      rw [hs3] at this; cases this
    | none =>
      refine clash_min h nums hn hw n (k + 1) (by omega) (by omega) fun s hs1 hs2 hs3 => ?_
      by_cases e : s.length = k
      · have := srch_none k h nums [] hr s hs1 hs2 (by simpa using e)
        simpa using this
      · exact hs s hs1 hs2 (by omega)

/-- The numbers of a mask. -/
def maskNums (n m : Nat) : List Int := ((List.range n).filter fun i => m.testBit i).map fun i : Nat => (i : Int)

theorem mask_sub (n m : Nat) : (maskNums n m).Sublist (numsTo n) := List.Sublist.map _ List.filter_sublist

end Go.Proofs.Ytnbcdbkhpdpjgaa.H
