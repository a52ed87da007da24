/- step.Check: the error of a sheet. -/
import Derived.Test.YtnbcdbkhpdpjgaaQA3
import Derived.Test.YtnbcdbkhpdpjgaaH0
namespace Go.Proofs.Ytnbcdbkhpdpjgaa.H
open Go.RowKit Go.Proofs.YtnbcdbkhpdpjgaaW.PrintWords Go.Proofs.YtnbcdbkhpdpjgaaW.PrintLast Go.Proofs.YtnbcdbkhpdpjgaaW.PrintMore
open Go.Shelf Go.Proofs.Ytnbcdbkhpdpjgaa.QA
set_option linter.unusedVariables false
set_option linter.unusedSimpArgs false

def isIn (a x b : Int) : Bool := decide (a ≤ x) && decide (x ≤ b)
theorem between_f (a x b : Int) : step_between.f a x b = some (isIn a x b) := by
  unfold step_between.f isIn
  by_cases h : a ≤ x <;> simp [h]

/-- step.Check$1 -/
theorem check1 (l : List Int) (w : World) : Pred 47 #[] (Value.int .i64) (· ∈ l) (fun p => !isIn 0 p 1000000) w := by
  intro W x _ _
  go_enter Try.func47, Try.ntmps47
  go_wp2_with (go_at_call 45; refine (step_between.calls _ _ _ _ _ (between_f _ _ _)).mono ?_; rintro e w' ⟨rfl, ⟨nd, rfl⟩⟩)
  go_ret
  exact ⟨rfl, by repeat (first | exact Below.refl _ _ | apply pw_below_drewN)⟩

def chkRows : List (List Int) → Int
  | [] => 0
  | l :: ls => if l.length = 0 then 4 else if 12 < l.length then 5 else if l.any (fun p => !isIn 0 p 1000000) = true then 3 else chkRows ls

def step_Check.f (a : Int) (ls : List (List Int)) : Option Int :=
  some (if isIn 0 a 50 = false then 3 else if ls.length = 0 then 4 else if 6 < ls.length then 5 else chkRows ls)

theorem chk_drop (l : List (List Int)) (k : Nat) (h : k < l.length) : chkRows (l.drop k) = (if (rd_L1 l k).length = 0 then 4 else if 12 < (rd_L1 l k).length then 5 else if (rd_L1 l k).any (fun p => !isIn 0 p 1000000) = true then 3 else chkRows (l.drop (k + 1))) := by
  have e : rd_L1 l k = l[k] := by unfold rd_L1; rw [Int.toNat_natCast, List.getD_eq_getElem?_getD, List.getElem?_eq_getElem h]; rfl
  rw [List.drop_eq_getElem_cons h, e]
  rfl

set_option maxHeartbeats 4000000 in
set_option maxRecDepth 100000 in
theorem step_Check.calls (a0_0 : Int) (A0_1 : Option Addr) (c0_1 : Nat) (l0_1 : List (List Int)) (r : Int) (w : World) (hr0_1 : Kd.C (Kd.slice 3 (Kd.int .i64)) w A0_1 l0_1.length l0_1) (hc0_1 : l0_1.length ≤ c0_1) (h : step_Check.f a0_0 l0_1 = some r) :
    Calls Try.prog 18 #[.agg #[.int .i64 a0_0, .slice A0_1 l0_1.length c0_1]] w fun e w' => e = .returned (.int .i64 r) ∧ Below w.heap.size w w' := by
  have hu24 := Try.underlying24
  have HE := Aside0.mk h
  clear h
  have hm := Kd.C_max hr0_1
  have HR := Aside0.mk hr0_1
  clear hr0_1 
  cases hb : isIn 0 a0_0 50 with
  | false =>
    have e : step_Check.f a0_0 l0_1 = some 3 := by unfold step_Check.f; rw [if_pos hb]
    obtain rfl := Option.some.inj (e.symm.trans HE.out)
    go_enter Try.func18, Try.ntmps18
    go_wp2_with (go_at_call 45; refine (step_between.calls _ _ _ _ _ (between_f _ _ _)).mono ?_; rintro e w' ⟨rfl, ⟨nd, rfl⟩⟩)
    go_ret
    exact ⟨rfl, by repeat (first | exact Below.refl _ _ | apply pw_below_drewN | apply below_alloc)⟩
  | true =>
    by_cases h0 : l0_1.length = 0
    · have h0b : ((l0_1.length : Int) == 0) = true := by simp [h0]
      have e : step_Check.f a0_0 l0_1 = some 4 := by unfold step_Check.f; rw [if_neg (by simp [hb]), if_pos h0]
      obtain rfl := Option.some.inj (e.symm.trans HE.out)
      clear h0 e
      go_enter Try.func18, Try.ntmps18
      go_wp2_with (go_at_call 45; refine (step_between.calls _ _ _ _ _ (between_f _ _ _)).mono ?_; rintro e w' ⟨rfl, ⟨nd, rfl⟩⟩)
      go_ret
      exact ⟨rfl, by repeat (first | exact Below.refl _ _ | apply pw_below_drewN | apply below_alloc)⟩
    · have h0b : ((l0_1.length : Int) == 0) = false := by simp only [beq_eq_false_iff_ne, ne_eq]; omega
      by_cases h6 : 6 < l0_1.length
      · have h6b : decide (6 < (l0_1.length : Int)) = true := decide_eq_true (by omega)
        have e : step_Check.f a0_0 l0_1 = some 5 := by unfold step_Check.f; rw [if_neg (by simp [hb]), if_neg h0, if_pos h6]
        obtain rfl := Option.some.inj (e.symm.trans HE.out)
        clear h0 e h6
        go_enter Try.func18, Try.ntmps18
        go_wp2_with (go_at_call 45; refine (step_between.calls _ _ _ _ _ (between_f _ _ _)).mono ?_; rintro e w' ⟨rfl, ⟨nd, rfl⟩⟩)
        go_ret
        exact ⟨rfl, by repeat (first | exact Below.refl _ _ | apply pw_below_drewN | apply below_alloc)⟩
      · have h6b : decide (6 < (l0_1.length : Int)) = false := decide_eq_false (by omega)
        have e : step_Check.f a0_0 l0_1 = some (chkRows l0_1) := by unfold step_Check.f; rw [if_neg (by simp [hb]), if_neg h0, if_neg h6]
        have HE := Aside0.mk (Option.some.inj (e.symm.trans HE.out))
        clear h0 e h6
        go_enter Try.func18, Try.ntmps18
        go_wp2_with (go_at_call 45; refine (step_between.calls _ _ _ _ _ (between_f _ _ _)).mono ?_; rintro e w' ⟨rfl, ⟨nd, rfl⟩⟩)
        go_loopg [23] l0_1.length (fun gg s23 wr => ∃ kk : Nat, kk ≤ l0_1.length ∧ l0_1.length - kk ≤ gg ∧ s23 = .int .i64 kk ∧ Aside0 (Below w.heap.size w wr) ∧ Aside0 (chkRows (l0_1.drop kk) = r))
        case atStart => exact ⟨0, Nat.zero_le _, by omega, rfl, ⟨by repeat (first | exact Below.refl _ _ | apply pw_below_drewN | apply below_alloc)⟩, ⟨HE.out⟩⟩
        case round =>
          clear HE hb h0b h6b
          obtain ⟨kk, hkk, hg, rfl, BW, HA⟩ := hrel
          by_cases hlt : kk < l0_1.length
          · have hltz : (kk : Int) < (l0_1.length : Int) := by omega
            obtain ⟨ad, A1, c1, e1, hx, hc1, hr1⟩ := at_L1 HR.out kk (by omega) hltz
            cases e1
            rw [Int.toNat_natCast] at hx
            replace hx := (BW.out.cell (World.block_lt_of_cell? w _ hx)).trans hx
            replace hr1 := Kd.C_below hr1 (BW.out)
            have hd := chk_drop l0_1 kk hlt
            generalize rd_L1 l0_1 kk = y at hx hc1 hr1 hd
            have hm1 := Kd.C_max hr1
            by_cases h1 : y.length = 0
            · have h1b : ((y.length : Int) == 0) = true := by simp [h1]
              rw [if_pos h1] at hd
              obtain rfl := hd.symm.trans HA.out
              clear hd h1
              have H1 := Aside0.mk hr1
              clear hr1
              go_wp2
              go_ret
              exact ⟨rfl, BW.out⟩
            · have h1b : ((y.length : Int) == 0) = false := by simp only [beq_eq_false_iff_ne, ne_eq]; omega
              rw [if_neg h1] at hd
              by_cases h2 : 12 < y.length
              · have h2b : decide (12 < (y.length : Int)) = true := decide_eq_true (by omega)
                rw [if_pos h2] at hd
                obtain rfl := hd.symm.trans HA.out
                clear hd h1 h2
                have H1 := Aside0.mk hr1
                clear hr1
                go_wp2
                go_ret
                exact ⟨rfl, BW.out⟩
              · have h2b : decide (12 < (y.length : Int)) = false := decide_eq_false (by omega)
                rw [if_neg h2] at hd
                have HD := Aside0.mk hd
                clear hd h1 h2
                have H1 := Aside0.mk hr1
                clear hr1
                have hcon := conInts 47 #[] (fun p => !isIn 0 p 1000000) (enters_of Try.func47 (by kernel_rfl) rfl) A1 c1 y wr (check1 y wr) H1.out hc1
                cases h3 : y.any (fun p => !isIn 0 p 1000000) with
                | true =>
                  rw [h3] at hcon
                  have e := HD.out
                  rw [if_pos h3] at e
                  obtain rfl := e.symm.trans HA.out
                  clear e h3
                  go_wp2_with (go_at_call 46; refine hcon.mono ?_; rintro e w' ⟨rfl, hb'⟩)
                  go_ret
                  exact ⟨rfl, below_then BW.out BW.out.size hb'⟩
                | false =>
                  rw [h3] at hcon
                  have e := HD.out
                  rw [if_neg (by rw [h3]; simp)] at e
                  have HA2 := Aside0.mk (e.symm.trans HA.out)
                  clear e h3
                  go_wp2_with (go_at_call 46; refine hcon.mono ?_; rintro e w' ⟨rfl, hb'⟩)
                  go_roundg (l0_1.length - (kk + 1))
                  case measure => omega
                  case rel => exact ⟨kk + 1, by omega, by omega, by go_num, ⟨below_then BW.out BW.out.size hb'⟩, HA2⟩
          · have hltz : ¬ (kk : Int) < (l0_1.length : Int) := by omega
            have : kk = l0_1.length := by omega
            subst this
            have e := HA.out
            rw [List.drop_length] at e
            obtain rfl : (0 : Int) = r := e
            go_wp2
            go_ret
            exact ⟨rfl, BW.out⟩

end Go.Proofs.Ytnbcdbkhpdpjgaa.H
