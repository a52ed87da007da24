/- Plain laws of StepClashes: step's Clash and the reference's have the same length; what step returns is accepted. -/
import Derived.Test.YtnbcdbkhpdpjgaaHN
namespace Go.Proofs.Ytnbcdbkhpdpjgaa.H
open Go.RowKit Go.Proofs.YtnbcdbkhpdpjgaaW.PrintWords Go.Proofs.YtnbcdbkhpdpjgaaW.PrintLast Go.Proofs.YtnbcdbkhpdpjgaaW.PrintMore
open Go.Proofs.Ytnbcdbkhpdpjgaa.QA
set_option linter.unusedVariables false
set_option linter.unusedSimpArgs false

theorem offs_mem (off s o : Int) (l : List Int) (hs : 0 < s) (ho : 0 ≤ off) : o ∈ offsOf off s l ↔ (0 ≤ o ∧ o < s) ∧ l.all (fitB off s o) = true := by
  unfold offsOf offsTo
  rw [List.mem_filter, offsB_fits off s o l hs ho]
  refine and_congr ?_ Iff.rfl
  rw [List.mem_map]
  constructor
  · rintro ⟨i, hi, rfl⟩
    have := List.mem_range.1 hi
    omega
  · rintro ⟨h0, h1⟩
    exact ⟨o.toNat, List.mem_range.2 (by omega), by omega⟩

/-- If some positions exclude the step, all do. -/
theorem excl_mono (off s : Int) (l holes : List Int) (hs : 0 < s) (ho : 0 ≤ off) (hl : l ≠ []) (hh : ∀ i ∈ holes, 0 ≤ i ∧ i < l.length) (h0 : holes ≠ []) (h : excl off s l holes = true) : allowsB off s l = false := by
  cases hA : allowsB off s l with
  | false => rfl
  | true =>
    exfalso
    rw [allows_offs off s l hs hl] at hA
    obtain ⟨o, hm⟩ := List.exists_mem_of_length_pos (of_decide_eq_true hA)
    obtain ⟨hr, hf⟩ := (offs_mem off s o l hs ho).1 hm
    have hf2 : (chosenS l holes).all (fitB off s o) = true := List.all_eq_true.2 (chosen_in l holes hh _ (List.all_eq_true.1 hf))
    have hm2 := (offs_mem off s o (chosenS l holes) hs ho).2 ⟨hr, hf2⟩
    have hne : chosenS l holes ≠ [] := by
      intro e
      have := chosen_length l holes
      rw [e] at this
      exact h0 (List.length_eq_zero_iff.1 this.symm)
    unfold excl at h
    rw [allows_offs off s _ hs hne, decide_eq_true (List.length_pos_of_mem hm2)] at h
    cases h

theorem ver_sorted (off s : Int) (l all : List Int) (hl : l.length ≤ 12) : ∀ (r : List Int) (prev : Int), r.Pairwise (· < ·) → (∀ x ∈ r, 0 ≤ x ∧ x < l.length) → (∀ x ∈ r, prev < x) → verFrom off s l all prev r = if allowsB off s (chosenS l all) = true then 14 else 0
  | [], prev, _, _, _ => by rw [verFrom]
  | x :: r, prev, hp, hi, hv => by
    have hx := hi x (by simp)
    have hv' := hv x (by simp)
    have hb : isIn 0 x ((l.length : Int) - 1) = true := by unfold isIn; rw [decide_eq_true hx.1, decide_eq_true (by omega)]; rfl
    rw [verFrom, hb, if_neg (show ¬ (true = false) from Bool.noConfusion), if_neg (by omega)]
    exact ver_sorted off s l all hl r x (List.pairwise_cons.1 hp).2 (fun y hy => hi y (List.mem_cons_of_mem _ hy)) (fun y hy => (List.pairwise_cons.1 hp).1 y hy)

theorem nums_sorted : ∀ n, (numsTo n).Pairwise (· < ·)
  | 0 => by simp [numsTo]
  | n + 1 => by
    rw [numsTo_succ, List.pairwise_append]
    refine ⟨nums_sorted n, by simp, fun x hx y hy => ?_⟩
    rw [List.mem_singleton.1 hy]
    exact (numsTo_in n x hx).2

theorem clash_same (a : Int) (ls : List (List Int)) (a1 a2 : Int) (k : Nat) (hk : 100000 ≤ k) : ∃ r1 r2 n, step_Clash.f a ls a1 a2 = some (r1, n) ∧ pianolaref01_Clash.f k a ls a1 a2 = some (r2, n) ∧ r1.length = r2.length ∧ r1.length ≤ 12 ∧ (n = 0 → pianolaref01_Verify.f k a ls a1 a2 r1 = some 0) := by
  unfold step_Clash.f pianolaref01_Clash.f
  rcases asked_cases a ls a1 a2 k (by omega) with ⟨l, hA, e1, e2⟩ | ⟨e, he, e1, e2⟩
  · have hA' := hA
    obtain ⟨h1, h2, h3, h4, h5, h6, h7, h8⟩ := hA
    rw [e1, e2]
    simp only [Option.bind_some, if_true]
    have hl0 : l ≠ [] := by rintro rfl; simp at h6
    have hnl : (numsTo l.length).length = l.length := numsTo_length _
    have hn0 : numsTo l.length ≠ [] := by intro e; rw [e] at hnl; simp at hnl; omega
    have hpow : 2 ^ l.length ≤ 4096 := Nat.pow_le_pow_right (n := 2) (by decide) h7
    have hpos : 1 ≤ 2 ^ l.length := Nat.one_le_two_pow
    obtain ⟨out, hK, hR⟩ := rclash0 a ls l a2 (by omega) h2.2 ⟨h1.1, by omega⟩ h8 h7 (2 ^ l.length - 1) 1 (by omega) (Nat.le_refl _) [] (Or.inl ⟨rfl, fun m' h1 h2 => by omega⟩) k (by omega)
    rw [show ((1 : Nat) : Int) = 1 from rfl] at hR
    rw [if_pos ⟨⟨by omega, by omega⟩, ⟨by omega, by omega⟩, h8, h6, by omega⟩, if_pos h3.1, if_pos h3.2, ← h5, hR]
    by_cases hw : allowsB a a2 l = true
    · rw [if_pos hw]
      have hout : out = [] := by
        rcases hK with ⟨h, _⟩ | ⟨h, hx, hs, _⟩
        · exact h
        · have := excl_mono a a2 l out (by omega) h1.1 hl0 (fun i hi => numsTo_in _ i (hs.subset hi)) h hx
          rw [hw] at this; cases this
      rw [hout]
      exact ⟨[], [], 8, rfl, rfl, rfl, by simp, fun h => by cases h⟩
    · rw [if_neg hw]
      have hwf : allowsB a a2 l = false := Bool.eq_false_iff.2 hw
      have hxn : excl a a2 l (numsTo l.length) = true := by unfold excl; rw [chosen_all, hwf]; rfl
      obtain ⟨r, hr, hrs, hrn, hrx, hrm⟩ := clash_min (excl a a2 l) (numsTo l.length) hn0 hxn l.length 1 (Nat.le_refl _) (by omega) (fun sub _ h h' => absurd (List.length_eq_zero_iff.1 (by omega)) h)
      have hmask : ∀ sub : List Int, sub.Sublist (numsTo l.length) → sub ≠ [] → ∃ m, 1 ≤ m ∧ m < 2 ^ l.length ∧ maskNums l.length m = sub := by
        intro sub hs hne
        obtain ⟨m, hm, e⟩ := mask_of l.length sub hs
        refine ⟨m, Nat.one_le_iff_ne_zero.2 ?_, hm, e⟩
        rintro rfl
        have e0 : maskNums l.length 0 = [] := by unfold maskNums; simp
        exact hne (e.symm.trans e0)
      rcases hK with ⟨h, hx⟩ | ⟨h, hx, hs, hmin⟩
      · obtain ⟨m, hm1, hm2, e⟩ := hmask r hrs hrn
        have := hx m hm1 hm2
        rw [e, hrx] at this; cases this
      · have hle1 := hrm out hs h hx
        obtain ⟨m, hm1, hm2, e⟩ := hmask r hrs hrn
        have hle2 := hmin m hm1 hm2 (by rw [e]; exact hrx)
        rw [e] at hle2
        have hlr : r.length ≤ 12 := by have := hrs.length_le; omega
        have hol : ¬ out.length = 0 := fun e => h (List.length_eq_zero_iff.1 e)
        rw [if_neg hol, hr]
        refine ⟨r, out, 0, rfl, rfl, by omega, hlr, fun _ => ?_⟩
        obtain ⟨e', _, hv, hq⟩ := verify_same a ls a1 a2 r (by omega) k (by omega)
        rw [hv, hq l hA' e1, verOf, if_neg (fun e => hrn (List.length_eq_zero_iff.1 e)), ver_sorted a a2 l r h7 r (-1) ((nums_sorted _).sublist hrs) (fun x hx => numsTo_in _ x (hrs.subset hx)) (fun x hx => by have := (numsTo_in _ x (hrs.subset hx)).1; omega)]
        unfold excl at hrx
        have : allowsB a a2 (chosenS l r) = false := by simpa using hrx
        rw [this]; rfl
  · rw [e1, e2]
    simp only [Option.bind_some, if_neg he]
    exact ⟨[], [], e, rfl, rfl, rfl, by simp, fun h => absurd h he⟩

end Go.Proofs.Ytnbcdbkhpdpjgaa.H
