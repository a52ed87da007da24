/- The walk of the law StepClashes: it returns true. Printed by gen_law6.py of this session. -/
import Derived.Test.YtnbcdbkhpdpjgaaHO
import Derived.Test.YtnbcdbkhpdpjgaaHK
import Derived.Test.YtnbcdbkhpdpjgaaHB
namespace Go.Proofs.Ytnbcdbkhpdpjgaa.H
open Go.RowKit Go.Proofs.YtnbcdbkhpdpjgaaW.PrintWords Go.Proofs.YtnbcdbkhpdpjgaaW.PrintLast Go.Proofs.YtnbcdbkhpdpjgaaW.PrintMore
open Go.Shelf Go.Proofs.Ytnbcdbkhpdpjgaa.QA
set_option linter.unusedVariables false
set_option linter.unusedSimpArgs false

theorem cells_below {W W' : World} {p q r t : Addr} {x y z u : Value} (hb : Below W.heap.size W W') (h : W.cell? p = some x ∧ W.cell? q = some y ∧ W.cell? r = some z ∧ W.cell? t = some u) : W'.cell? p = some x ∧ W'.cell? q = some y ∧ W'.cell? r = some z ∧ W'.cell? t = some u :=
 ⟨pw_cell_below hb h.1, pw_cell_below hb h.2.1, pw_cell_below hb h.2.2.1, pw_cell_below hb h.2.2.2⟩
theorem cells2_below {W W' : World} {p q : Addr} {x y : Value} (hb : Below W.heap.size W W') (h : W.cell? p = some x ∧ W.cell? q = some y) : W'.cell? p = some x ∧ W'.cell? q = some y :=
 ⟨pw_cell_below hb h.1, pw_cell_below hb h.2⟩

def stepClashes.T10 : Bool × List (List Nat × List Nat) := (true, [([], []), ([], []), ([], []), ([], []), ([0, 1, 2, 3], [0, 1, 2, 3]), ([], []), ([], []), ([], []), ([], []), ([5, 6, 7, 8, 4], [5, 6, 7, 8]), ([4, 9], [4, 9]), ([10, 9], [10]), ([11, 11], [11]), ([11, 12], [11, 12]), ([13, 12, 0, 1, 2, 3, 4, 5, 6, 7, 8, 9, 10, 11, 12, 13], [13])])
def stepClashes.B10 : List Nat := [0, 0, 0, 0, 15, 0, 0, 0, 0, 511, 1023, 2047, 4095, 8191, 16383]
theorem stepClashes.tab10 : rtab .any (opsOf Try.f6 10) = stepClashes.T10 := by kernel_rfl
theorem stepClashes.bits10 : waitsOk stepClashes.T10.2 stepClashes.B10 = true := by kernel_rfl

set_option maxHeartbeats 8000000 in
set_option maxRecDepth 100000 in
theorem stepClashes_calls (a : Int) (A : Option Addr) (c : Nat) (l : List (List Int)) (a1 a2 : Int) (A3 : Option Addr) (c3 : Nat) (l3 : List Int) (w : World) (hr : Kd.C (Kd.slice 3 (Kd.int .i64)) w A l.length l) (hc : l.length ≤ c) (hr3 : Kd.C (Kd.int .i64) w A3 l3.length l3) (hc3 : l3.length ≤ c3) :
    Calls Try.prog 6 #[.agg #[.int .i64 a, .slice A l.length c], .int .i64 a1, .int .i64 a2, .slice A3 l3.length c3] w fun e w' => e = .returned (.bool true) ∧ Below w.heap.size w w' := by
 have HB := Aside0.mk (Below.refl w.heap.size w)
 have HR := Aside0.mk hr
 have HS := Aside0.mk hr3
 clear hr hr3
 have hu24 := Try.underlying24
 have hu31 := Try.underlying31
 cases hla : largeOf l with
 | true =>
  have HL := Aside0.mk ((large_f a l 1000 (by omega)).trans (congrArg some hla)); clear hla
  go_enter Try.func6, Try.ntmps6
  go_wp2_with fail
  refine (pianolalaw01_large.calls 1000 a A c l true _ (Kd.C_alloc HR.out _) hc HL.out).mono ?_
  rintro e w1 ⟨rfl, hb⟩
  have KX := Aside0.mk (And.intro (pw_cell_below hb (a := ⟨w.heap.size, 0, none⟩) (v := .int .i64 a) (by simp)) (pw_cell_below hb (a := ⟨w.heap.size, 1, none⟩) (v := .slice A l.length c) (by simp)))
  replace HR := Aside0.mk (Kd.C_below (Kd.C_alloc HR.out _) hb)
  replace HS := Aside0.mk (Kd.C_below (Kd.C_alloc HS.out _) hb)
  replace HB := Aside0.mk (below_then (below_alloc (Below.refl w.heap.size w) _) (by simp) hb); clear hb
  obtain ⟨hk0, hk1⟩ := KX.out
  clear hk0 hk1
  go_wp2_with fail
  refine (works_calls _).mono ?_
  rintro e wz ⟨rfl, hb⟩
  replace HB := Aside0.mk (below_then HB.out HB.out.size hb); clear hb
  go_wp2
  go_ret
  exact ⟨rfl, HB.out⟩
 | false =>
  have HL := Aside0.mk ((large_f a l 1000 (by omega)).trans (congrArg some hla)); clear hla
  by_cases c1 : 40 < l3.length
  ·
   have c1b : decide (40 < (l3.length : Int)) = true := decide_eq_true (by omega)
   go_enter Try.func6, Try.ntmps6
   go_wp2_with fail
   refine (pianolalaw01_large.calls 1000 a A c l false _ (Kd.C_alloc HR.out _) hc HL.out).mono ?_
   rintro e w2 ⟨rfl, hb⟩
   have KX := Aside0.mk (And.intro (pw_cell_below hb (a := ⟨w.heap.size, 0, none⟩) (v := .int .i64 a) (by simp)) (pw_cell_below hb (a := ⟨w.heap.size, 1, none⟩) (v := .slice A l.length c) (by simp)))
   replace HR := Aside0.mk (Kd.C_below (Kd.C_alloc HR.out _) hb)
   replace HS := Aside0.mk (Kd.C_below (Kd.C_alloc HS.out _) hb)
   replace HB := Aside0.mk (below_then (below_alloc (Below.refl w.heap.size w) _) (by simp) hb); clear hb
   obtain ⟨hk0, hk1⟩ := KX.out
   clear hk0 hk1
   go_wp2_with fail
   refine (works_calls _).mono ?_
   rintro e wz ⟨rfl, hb⟩
   replace HB := Aside0.mk (below_then HB.out HB.out.size hb); clear hb
   go_wp2
   go_ret
   exact ⟨rfl, HB.out⟩
  ·
   have c1b : decide (40 < (l3.length : Int)) = false := decide_eq_false (by omega)
   obtain ⟨r1, r2, n, hO, hO2, hlen, h12, hV⟩ := clash_same a l a1 a2 100000 (by omega)
   obtain ⟨ev, hE, hE2, _⟩ := verify_same a l a1 a2 l3 (by omega) 3000 (by omega)
   have HO := Aside0.mk hO; have HO2 := Aside0.mk hO2; have HV := Aside0.mk hV; have HE := Aside0.mk hE; have HE2 := Aside0.mk hE2; have HLN := Aside0.mk hlen; clear hO hO2 hV hE hE2 hlen h12 c1
   go_enter Try.func6, Try.ntmps6
   go_wp2_with fail
   refine (pianolalaw01_large.calls 1000 a A c l false _ (Kd.C_alloc HR.out _) hc HL.out).mono ?_
   rintro e w3 ⟨rfl, hb⟩
   have KX := Aside0.mk (And.intro (pw_cell_below hb (a := ⟨w.heap.size, 0, none⟩) (v := .int .i64 a) (by simp)) (pw_cell_below hb (a := ⟨w.heap.size, 1, none⟩) (v := .slice A l.length c) (by simp)))
   replace HR := Aside0.mk (Kd.C_below (Kd.C_alloc HR.out _) hb)
   replace HS := Aside0.mk (Kd.C_below (Kd.C_alloc HS.out _) hb)
   replace HB := Aside0.mk (below_then (below_alloc (Below.refl w.heap.size w) _) (by simp) hb); clear hb
   obtain ⟨hk0, hk1⟩ := KX.out
   go_wp2_with fail
   clear hk0 hk1
   refine (given_calls' a A c l _ HR.out hc).mono ?_
   rintro e w2 ⟨Ag, cg, rfl, hcg, hCg, hb⟩
   have hbb := hb; clear hb
   replace HB := Aside0.mk (below_then HB.out HB.out.size hbb)
   replace KX := Aside0.mk (cells2_below hbb KX.out)
   replace HR := Aside0.mk (Kd.C_below HR.out hbb)
   replace HS := Aside0.mk (Kd.C_below HS.out hbb)
   clear hbb
   have Hg := Aside0.mk hCg; clear hCg
   obtain ⟨hk0, hk1⟩ := KX.out
   go_upto_region 4 with fail
   (try simp only [Act.put, List.setIfInBounds_toArray, List.set_cons_zero, List.set_cons_succ])
   clear hk0 hk1
   have hbb : Below w2.heap.size w2 (w2.alloc (Obj.cells #[.int .i64 a, .slice Ag l.length cg] 31)) := below_alloc (Below.refl _ _) _
   replace HB := Aside0.mk (below_then HB.out HB.out.size hbb)
   replace KX := Aside0.mk (cells2_below hbb KX.out)
   replace HR := Aside0.mk (Kd.C_below HR.out hbb)
   replace HS := Aside0.mk (Kd.C_below HS.out hbb)
   replace Hg := Aside0.mk (Kd.C_below Hg.out hbb)
   clear hbb
   have KK := Aside0.mk (And.intro KX.out.1 (And.intro KX.out.2 (And.intro ((blk_cell (blk_new w2 (Obj.cells #[.int .i64 a, .slice Ag l.length cg] 31)) 0).trans rfl) ((blk_cell (blk_new w2 (Obj.cells #[.int .i64 a, .slice Ag l.length cg] 31)) 1).trans rfl)))); clear KX
   generalize (w2.alloc (Obj.cells #[.int .i64 a, .slice Ag l.length cg] 31)) = w3 at HB KK HR HS Hg ⊢
   go_cut [49] (fun v wc => ∃ b : Bool, v = .bool b ∧ Aside0 (wc.cell? ⟨w.heap.size, 0, none⟩ = some (.int .i64 a) ∧ wc.cell? ⟨w.heap.size, 1, none⟩ = some (.slice A l.length c) ∧ wc.cell? ⟨w2.heap.size, 0, none⟩ = some (.int .i64 a) ∧ wc.cell? ⟨w2.heap.size, 1, none⟩ = some (.slice Ag l.length cg)) ∧ Aside0 (Kd.C (Kd.slice 3 (Kd.int .i64)) wc A l.length l) ∧ Aside0 (Kd.C (Kd.int .i64) wc A3 l3.length l3) ∧ Aside0 (Kd.C (Kd.slice 3 (Kd.int .i64)) wc Ag l.length l) ∧ Aside0 (Below w.heap.size w wc))
   case first =>
    obtain ⟨hk0, hk1, hk2, hk3⟩ := KK.out
    by_cases q1 : 0 ≤ a1
    ·
     have q1b : decide (0 ≤ a1) = true := decide_eq_true q1
     by_cases q2 : a1 < (l.length : Int)
     ·
      have q2b : decide (a1 < (l.length : Int)) = true := decide_eq_true q2
      obtain ⟨ad, A1, cA, rfl, hx, hcA, hr1⟩ := at_L1 HR.out a1 q1 q2
      by_cases q3 : 6 < (rd_L1 l a1).length
      ·
       have q3b : decide (6 < ((rd_L1 l a1).length : Int)) = true := decide_eq_true (by omega)
       by_cases q4 : 40 < a2
       ·
        have q4b : decide (40 < a2) = true := decide_eq_true q4
        go_wp2
        go_meet
        case rel => exact ⟨_, rfl, KK, HR, HS, Hg, HB⟩
       ·
        have q4b : decide (40 < a2) = false := decide_eq_false q4
        go_wp2
        go_meet
        case rel => exact ⟨_, rfl, KK, HR, HS, Hg, HB⟩
      ·
       have q3b : decide (6 < ((rd_L1 l a1).length : Int)) = false := decide_eq_false (by omega)
       go_wp2
       go_meet
       case rel => exact ⟨_, rfl, KK, HR, HS, Hg, HB⟩
     ·
      have q2b : decide (a1 < (l.length : Int)) = false := decide_eq_false q2
      go_wp2
      go_meet
      case rel => exact ⟨_, rfl, KK, HR, HS, Hg, HB⟩
    ·
     have q1b : decide (0 ≤ a1) = false := decide_eq_false q1
     go_wp2
     go_meet
     case rel => exact ⟨_, rfl, KK, HR, HS, Hg, HB⟩
   case rest =>
    obtain ⟨b, rfl, KK, HR, HS, Hg, HB⟩ := hcut
    cases b with
    | true =>
     go_wp2_with fail
     refine (works_calls _).mono ?_
     rintro e wz ⟨rfl, hb⟩
     replace HB := Aside0.mk (below_then HB.out HB.out.size hb); clear hb
     go_wp2
     go_ret
     exact ⟨rfl, HB.out⟩
    | false =>
     obtain ⟨hk0, hk1, hk2, hk3⟩ := KK.out
     go_wp2_with fail
     try clear hk0 hk1
     try clear hk2 hk3
     refine (step_Clash.calls a A c l a1 a2 r1 n _ HR.out hc HO.out).mono ?_
     rintro e w11 ⟨v, rfl, hR, hb⟩
     have hbb := hb; clear hb
     replace HB := Aside0.mk (below_then HB.out HB.out.size hbb)
     replace KK := Aside0.mk (cells_below hbb KK.out)
     replace HR := Aside0.mk (Kd.C_below HR.out hbb)
     replace HS := Aside0.mk (Kd.C_below HS.out hbb)
     replace Hg := Aside0.mk (Kd.C_below Hg.out hbb)
     clear hbb
     obtain ⟨Ax, cx, rfl, hcx, hCx⟩ := Kd.R_reads hR
     clear hR
     have Hx := Aside0.mk hCx; clear hCx
     obtain ⟨hk0, hk1, hk2, hk3⟩ := KK.out
     go_wp2_with fail
     try clear hk0 hk1
     try clear hk2 hk3
     refine (pianolaref01_Clash.calls 100000 a Ag cg l a1 a2 r2 n _ Hg.out hcg HO2.out).mono ?_
     rintro e w12 ⟨v, rfl, hR, hb⟩
     have hbb := hb; clear hb
     replace HB := Aside0.mk (below_then HB.out HB.out.size hbb)
     replace KK := Aside0.mk (cells_below hbb KK.out)
     replace HR := Aside0.mk (Kd.C_below HR.out hbb)
     replace HS := Aside0.mk (Kd.C_below HS.out hbb)
     replace Hg := Aside0.mk (Kd.C_below Hg.out hbb)
     replace Hx := Aside0.mk (Kd.C_below Hx.out hbb)
     clear hbb
     have hq1 : ((r1.length : Int) == (r2.length : Int)) = true := by rw [HLN.out]; simp
     have hq2 : decide ((r1.length : Int) = (r2.length : Int)) = true := by rw [HLN.out]; simp
     obtain ⟨Ay, cy, rfl, hcy, hCy⟩ := Kd.R_reads hR
     clear hR
     have Hy := Aside0.mk hCy; clear hCy
     clear Hy hcy
     rw [← HLN.out]
     obtain ⟨hk0, hk1, hk2, hk3⟩ := KK.out
     by_cases hn : n = 0
     ·
      subst hn
      go_wp2_with fail
      try clear hk0 hk1
      try clear hk2 hk3
      refine (pianolaref01_Verify.calls 100000 a Ag cg l a1 a2 Ax cx r1 0 _ Hg.out hcg Hx.out hcx (HV.out (by first | rfl | trivial))).mono ?_
      rintro e w13 ⟨rfl, hb⟩
      have hbb := hb; clear hb
      replace HB := Aside0.mk (below_then HB.out HB.out.size hbb)
      replace KK := Aside0.mk (cells_below hbb KK.out)
      replace HR := Aside0.mk (Kd.C_below HR.out hbb)
      replace HS := Aside0.mk (Kd.C_below HS.out hbb)
      replace Hg := Aside0.mk (Kd.C_below Hg.out hbb)
      replace Hx := Aside0.mk (Kd.C_below Hx.out hbb)
      clear hbb
      obtain ⟨hk0, hk1, hk2, hk3⟩ := KK.out
      go_wp2_with fail
      try clear hk0 hk1 hk2 hk3
      refine start_ (n := 15) (S := fun w' => w'.cell? ⟨w.heap.size, 0, none⟩ = some (.int .i64 a) ∧ w'.cell? ⟨w.heap.size, 1, none⟩ = some (.slice A l.length c) ∧ w'.cell? ⟨w2.heap.size, 0, none⟩ = some (.int .i64 a) ∧ w'.cell? ⟨w2.heap.size, 1, none⟩ = some (.slice Ag l.length cg)) (ds := []) #[false, false, false, false, false, false, false, false, false, false, false, false, false, false, false] (by kernel_rfl) rfl rfl KK.out (fun hHeld => ?_)
      refine with_tabW stepClashes.tab10 stepClashes.bits10 (fun HT_ HW_ => ?_)
      have hbb : Below w13.heap.size w13 w13.drew := below_drew (Below.refl _ _)
      replace HB := Aside0.mk (below_then HB.out HB.out.size hbb)
      replace KK := Aside0.mk (cells_below hbb KK.out)
      replace HR := Aside0.mk (Kd.C_below HR.out hbb)
      replace HS := Aside0.mk (Kd.C_below HS.out hbb)
      replace Hg := Aside0.mk (Kd.C_below Hg.out hbb)
      replace Hx := Aside0.mk (Kd.C_below Hx.out hbb)
      clear hbb
      generalize w13.drew = w14 at HB KK HR HS Hg Hx hHeld ⊢
      refine pure_ (i := 1) (N := some 88) (v := ?_) (a' := ?_) #[false, true, false, false, false, false, false, false, false, false, false, false, false, false, false] rfl rfl (any_of HT_.out (by kernel_rfl)) (fun _ _ _ h => h) (Or.inl ⟨by rfl, ?_⟩) ?_ ?_
      rotate_left
      ·
       intro w'
       go_simp
       with_reducible rfl
      rotate_left
      ·
       simp only [Act.put, List.setIfInBounds_toArray, List.set_cons_zero, List.set_cons_succ, i64_w, i32_w]
       rfl
      refine pure_ (i := 2) (N := some 89) (v := ?_) (a' := ?_) #[false, true, true, false, false, false, false, false, false, false, false, false, false, false, false] rfl rfl (any_of HT_.out (by kernel_rfl)) (fun _ _ _ h => h) (Or.inl ⟨by rfl, ?_⟩) ?_ ?_
      rotate_left
      ·
       intro w'
       go_simp
       with_reducible rfl
      rotate_left
      ·
       simp only [Act.put, List.setIfInBounds_toArray, List.set_cons_zero, List.set_cons_succ, i64_w, i32_w]
       rfl
      refine pure_ (i := 3) (N := some 90) (v := ?_) (a' := ?_) #[false, true, true, true, false, false, false, false, false, false, false, false, false, false, false] rfl rfl (any_of HT_.out (by kernel_rfl)) (fun _ _ _ h => h) (Or.inl ⟨by rfl, ?_⟩) ?_ ?_
      rotate_left
      ·
       intro w'
       go_simp
       with_reducible rfl
      rotate_left
      ·
       simp only [Act.put, List.setIfInBounds_toArray, List.set_cons_zero, List.set_cons_succ, i64_w, i32_w]
       rfl
      refine pure_ (i := 6) (N := some 93) (v := ?_) (a' := ?_) #[false, true, true, true, false, false, true, false, false, false, false, false, false, false, false] rfl rfl (any_of HT_.out (by kernel_rfl)) (fun _ _ _ h => h) (Or.inl ⟨by rfl, ?_⟩) ?_ ?_
      rotate_left
      ·
       intro w'
       go_simp
       with_reducible rfl
      rotate_left
      ·
       simp only [Act.put, List.setIfInBounds_toArray, List.set_cons_zero, List.set_cons_succ, i64_w, i32_w]
       rfl
      refine pure_ (i := 7) (N := some 94) (v := ?_) (a' := ?_) #[false, true, true, true, false, false, true, true, false, false, false, false, false, false, false] rfl rfl (any_of HT_.out (by kernel_rfl)) (fun _ _ _ h => h) (Or.inl ⟨by rfl, ?_⟩) ?_ ?_
      rotate_left
      ·
       intro w'
       go_simp
       with_reducible rfl
      rotate_left
      ·
       simp only [Act.put, List.setIfInBounds_toArray, List.set_cons_zero, List.set_cons_succ, i64_w, i32_w]
       rfl
      refine pure_ (i := 8) (N := some 95) (v := ?_) (a' := ?_) #[false, true, true, true, false, false, true, true, true, false, false, false, false, false, false] rfl rfl (any_of HT_.out (by kernel_rfl)) (fun _ _ _ h => h) (Or.inl ⟨by rfl, ?_⟩) ?_ ?_
      rotate_left
      ·
       intro w'
       go_simp
       with_reducible rfl
      rotate_left
      ·
       simp only [Act.put, List.setIfInBounds_toArray, List.set_cons_zero, List.set_cons_succ, i64_w, i32_w]
       rfl
      refine take_ (i := 0) (N := some 87) (v := ?_) (a' := ?_) #[true, true, true, true, false, false, true, true, true, false, false, false, false, false, false] rfl rfl (take_ofW HT_.out HW_.out (by kernel_rfl)) (fun _ _ _ h => h) (Or.inl ⟨by rfl, ?_⟩) hHeld ?_ ?_
      rotate_left
      ·
       rintro w' ⟨s0, s1, s2, s3⟩
       go_simp
       with_reducible rfl
      rotate_left
      ·
       simp only [Act.put, List.setIfInBounds_toArray, List.set_cons_zero, List.set_cons_succ, i64_w, i32_w]
       rfl
      refine take_ (i := 5) (N := some 92) (v := ?_) (a' := ?_) #[true, true, true, true, false, true, true, true, true, false, false, false, false, false, false] rfl rfl (take_ofW HT_.out HW_.out (by kernel_rfl)) (fun _ _ _ h => h) (Or.inl ⟨by rfl, ?_⟩) hHeld ?_ ?_
      rotate_left
      ·
       rintro w' ⟨s0, s1, s2, s3⟩
       go_simp
       with_reducible rfl
      rotate_left
      ·
       simp only [Act.put, List.setIfInBounds_toArray, List.set_cons_zero, List.set_cons_succ, i64_w, i32_w]
       rfl
      refine one_ (i := 4) (N := some 91) #[true, true, true, true, true, true, true, true, true, false, false, false, false, false, false] rfl rfl (one_of HT_.out (by kernel_rfl)) (by decide) (fun K hK => ?_)
      refine goes_ Try.func34 (by kernel_rfl) rfl #[.agg #[.int .i64 a, .slice A l.length c], .int .i64 a1, .int .i64 a2, .slice A3 l3.length c3] (by rfl) rfl rfl (by (try simp only [List.map_toArray, List.map_cons, List.map_nil]); first | done | rfl) ?_
      refine (step_Verify.calls 3000 a A c l a1 a2 A3 c3 l3 ev _ HR.out hc HS.out hc3 HE.out).mono ?_
      rintro e w15 ⟨rfl, hb⟩
      refine ⟨_, rfl, ?_⟩
      have hbb := hb; clear hb
      replace HB := Aside0.mk (below_then HB.out HB.out.size hbb)
      replace KK := Aside0.mk (cells_below hbb KK.out)
      replace HR := Aside0.mk (Kd.C_below HR.out hbb)
      replace HS := Aside0.mk (Kd.C_below HS.out hbb)
      replace Hg := Aside0.mk (Kd.C_below Hg.out hbb)
      replace Hx := Aside0.mk (Kd.C_below Hx.out hbb)
      clear hbb
      refine hK.out _ _ KK.out (fun hHeld => ?_)
      clear hK K
      refine norm_ (a' := ?_) ?_ ?_
      rotate_left
      ·
       show Act.put _ (some 91) _ = _
       simp only [Act.put, List.setIfInBounds_toArray, List.set_cons_zero, List.set_cons_succ, i64_w, i32_w]
       rfl
      refine one_ (i := 9) (N := some 96) #[true, true, true, true, true, true, true, true, true, true, false, false, false, false, false] rfl rfl (one_of HT_.out (by kernel_rfl)) (by decide) (fun K hK => ?_)
      refine goes_ Try.func33 (by kernel_rfl) rfl #[.agg #[.int .i64 a, .slice Ag l.length cg], .int .i64 a1, .int .i64 a2, .slice A3 l3.length c3] (by rfl) rfl rfl (by (try simp only [List.map_toArray, List.map_cons, List.map_nil]); first | done | rfl) ?_
      refine (pianolaref01_Verify.calls 3000 a Ag cg l a1 a2 A3 c3 l3 ev _ Hg.out hcg HS.out hc3 HE2.out).mono ?_
      rintro e w16 ⟨rfl, hb⟩
      refine ⟨_, rfl, ?_⟩
      have hbb := hb; clear hb
      replace HB := Aside0.mk (below_then HB.out HB.out.size hbb)
      replace KK := Aside0.mk (cells_below hbb KK.out)
      replace HR := Aside0.mk (Kd.C_below HR.out hbb)
      replace HS := Aside0.mk (Kd.C_below HS.out hbb)
      replace Hg := Aside0.mk (Kd.C_below Hg.out hbb)
      replace Hx := Aside0.mk (Kd.C_below Hx.out hbb)
      clear hbb
      refine hK.out _ _ KK.out (fun hHeld => ?_)
      clear hK K
      refine norm_ (a' := ?_) ?_ ?_
      rotate_left
      ·
       show Act.put _ (some 96) _ = _
       simp only [Act.put, List.setIfInBounds_toArray, List.set_cons_zero, List.set_cons_succ, i64_w, i32_w]
       rfl
      refine pure_ (i := 10) (N := some 97) (v := ?_) (a' := ?_) #[true, true, true, true, true, true, true, true, true, true, true, false, false, false, false] rfl rfl (any_of HT_.out (by kernel_rfl)) (fun _ _ _ h => h) (Or.inl ⟨by rfl, ?_⟩) ?_ ?_
      rotate_left
      ·
       intro w'
       go_simp
       with_reducible rfl
      rotate_left
      ·
       simp only [Act.put, List.setIfInBounds_toArray, List.set_cons_zero, List.set_cons_succ, i64_w, i32_w]
       rfl
      refine pure_ (i := 11) (N := some 98) (v := ?_) (a' := ?_) #[true, true, true, true, true, true, true, true, true, true, true, true, false, false, false] rfl rfl (any_of HT_.out (by kernel_rfl)) (fun _ _ _ h => h) (Or.inl ⟨by rfl, ?_⟩) ?_ ?_
      rotate_left
      ·
       intro w'
       go_simp
       with_reducible rfl
      rotate_left
      ·
       simp only [Act.put, List.setIfInBounds_toArray, List.set_cons_zero, List.set_cons_succ, i64_w, i32_w]
       rfl
      refine one_ (i := 12) (N := some 99) #[true, true, true, true, true, true, true, true, true, true, true, true, true, false, false] rfl rfl (one_of HT_.out (by kernel_rfl)) (by decide) (fun K hK => ?_)
      refine goes_ Try.func15 (by kernel_rfl) rfl #[] (by rfl) rfl rfl (by (try simp only [List.map_toArray, List.map_cons, List.map_nil]); first | done | rfl) ?_
      refine (works_calls _).mono ?_
      rintro e w17 ⟨rfl, hb⟩
      refine ⟨_, rfl, ?_⟩
      have hbb := hb; clear hb
      replace HB := Aside0.mk (below_then HB.out HB.out.size hbb)
      replace KK := Aside0.mk (cells_below hbb KK.out)
      replace HR := Aside0.mk (Kd.C_below HR.out hbb)
      replace HS := Aside0.mk (Kd.C_below HS.out hbb)
      replace Hg := Aside0.mk (Kd.C_below Hg.out hbb)
      replace Hx := Aside0.mk (Kd.C_below Hx.out hbb)
      clear hbb
      refine hK.out _ _ KK.out (fun hHeld => ?_)
      clear hK K
      refine norm_ (a' := ?_) ?_ ?_
      rotate_left
      ·
       show Act.put _ (some 99) _ = _
       simp only [Act.put, List.setIfInBounds_toArray, List.set_cons_zero, List.set_cons_succ, i64_w, i32_w]
       rfl
      refine pure_ (i := 13) (N := some 100) (v := ?_) (a' := ?_) #[true, true, true, true, true, true, true, true, true, true, true, true, true, true, false] rfl rfl (any_of HT_.out (by kernel_rfl)) (fun _ _ _ h => h) (Or.inl ⟨by rfl, ?_⟩) ?_ ?_
      rotate_left
      ·
       intro w'
       go_simp
       with_reducible rfl
      rotate_left
      ·
       simp only [Act.put, List.setIfInBounds_toArray, List.set_cons_zero, List.set_cons_succ, i64_w, i32_w]
       rfl
      refine pure_ (i := 14) (N := some 8) (v := ?_) (a' := ?_) #[true, true, true, true, true, true, true, true, true, true, true, true, true, true, true] rfl rfl (any_of HT_.out (by kernel_rfl)) (fun _ _ _ h => h) (Or.inl ⟨by rfl, ?_⟩) ?_ ?_
      rotate_left
      ·
       intro w'
       go_simp
       with_reducible rfl
      rotate_left
      ·
       simp only [Act.put, List.setIfInBounds_toArray, List.set_cons_zero, List.set_cons_succ, i64_w, i32_w]
       rfl
      refine done_ (done_of HT_.out (by kernel_rfl)) ?_
      try clear hHeld
      go_wp2
      go_ret
      exact ⟨rfl, HB.out⟩
     ·
      have hn1 : (n == 0) = false := by simp [hn]
      have hn2 : decide (n = 0) = false := decide_eq_false hn
      go_wp2_with fail
      try clear hk0 hk1 hk2 hk3
      refine start_ (n := 15) (S := fun w' => w'.cell? ⟨w.heap.size, 0, none⟩ = some (.int .i64 a) ∧ w'.cell? ⟨w.heap.size, 1, none⟩ = some (.slice A l.length c) ∧ w'.cell? ⟨w2.heap.size, 0, none⟩ = some (.int .i64 a) ∧ w'.cell? ⟨w2.heap.size, 1, none⟩ = some (.slice Ag l.length cg)) (ds := []) #[false, false, false, false, false, false, false, false, false, false, false, false, false, false, false] (by kernel_rfl) rfl rfl KK.out (fun hHeld => ?_)
      refine with_tabW stepClashes.tab10 stepClashes.bits10 (fun HT_ HW_ => ?_)
      have hbb : Below w12.heap.size w12 w12.drew := below_drew (Below.refl _ _)
      replace HB := Aside0.mk (below_then HB.out HB.out.size hbb)
      replace KK := Aside0.mk (cells_below hbb KK.out)
      replace HR := Aside0.mk (Kd.C_below HR.out hbb)
      replace HS := Aside0.mk (Kd.C_below HS.out hbb)
      replace Hg := Aside0.mk (Kd.C_below Hg.out hbb)
      replace Hx := Aside0.mk (Kd.C_below Hx.out hbb)
      clear hbb
      generalize w12.drew = w13 at HB KK HR HS Hg Hx hHeld ⊢
      refine pure_ (i := 1) (N := some 88) (v := ?_) (a' := ?_) #[false, true, false, false, false, false, false, false, false, false, false, false, false, false, false] rfl rfl (any_of HT_.out (by kernel_rfl)) (fun _ _ _ h => h) (Or.inl ⟨by rfl, ?_⟩) ?_ ?_
      rotate_left
      ·
       intro w'
       go_simp
       with_reducible rfl
      rotate_left
      ·
       simp only [Act.put, List.setIfInBounds_toArray, List.set_cons_zero, List.set_cons_succ, i64_w, i32_w]
       rfl
      refine pure_ (i := 2) (N := some 89) (v := ?_) (a' := ?_) #[false, true, true, false, false, false, false, false, false, false, false, false, false, false, false] rfl rfl (any_of HT_.out (by kernel_rfl)) (fun _ _ _ h => h) (Or.inl ⟨by rfl, ?_⟩) ?_ ?_
      rotate_left
      ·
       intro w'
       go_simp
       with_reducible rfl
      rotate_left
      ·
       simp only [Act.put, List.setIfInBounds_toArray, List.set_cons_zero, List.set_cons_succ, i64_w, i32_w]
       rfl
      refine pure_ (i := 3) (N := some 90) (v := ?_) (a' := ?_) #[false, true, true, true, false, false, false, false, false, false, false, false, false, false, false] rfl rfl (any_of HT_.out (by kernel_rfl)) (fun _ _ _ h => h) (Or.inl ⟨by rfl, ?_⟩) ?_ ?_
      rotate_left
      ·
       intro w'
       go_simp
       with_reducible rfl
      rotate_left
      ·
       simp only [Act.put, List.setIfInBounds_toArray, List.set_cons_zero, List.set_cons_succ, i64_w, i32_w]
       rfl
      refine pure_ (i := 6) (N := some 93) (v := ?_) (a' := ?_) #[false, true, true, true, false, false, true, false, false, false, false, false, false, false, false] rfl rfl (any_of HT_.out (by kernel_rfl)) (fun _ _ _ h => h) (Or.inl ⟨by rfl, ?_⟩) ?_ ?_
      rotate_left
      ·
       intro w'
       go_simp
       with_reducible rfl
      rotate_left
      ·
       simp only [Act.put, List.setIfInBounds_toArray, List.set_cons_zero, List.set_cons_succ, i64_w, i32_w]
       rfl
      refine pure_ (i := 7) (N := some 94) (v := ?_) (a' := ?_) #[false, true, true, true, false, false, true, true, false, false, false, false, false, false, false] rfl rfl (any_of HT_.out (by kernel_rfl)) (fun _ _ _ h => h) (Or.inl ⟨by rfl, ?_⟩) ?_ ?_
      rotate_left
      ·
       intro w'
       go_simp
       with_reducible rfl
      rotate_left
      ·
       simp only [Act.put, List.setIfInBounds_toArray, List.set_cons_zero, List.set_cons_succ, i64_w, i32_w]
       rfl
      refine pure_ (i := 8) (N := some 95) (v := ?_) (a' := ?_) #[false, true, true, true, false, false, true, true, true, false, false, false, false, false, false] rfl rfl (any_of HT_.out (by kernel_rfl)) (fun _ _ _ h => h) (Or.inl ⟨by rfl, ?_⟩) ?_ ?_
      rotate_left
      ·
       intro w'
       go_simp
       with_reducible rfl
      rotate_left
      ·
       simp only [Act.put, List.setIfInBounds_toArray, List.set_cons_zero, List.set_cons_succ, i64_w, i32_w]
       rfl
      refine take_ (i := 0) (N := some 87) (v := ?_) (a' := ?_) #[true, true, true, true, false, false, true, true, true, false, false, false, false, false, false] rfl rfl (take_ofW HT_.out HW_.out (by kernel_rfl)) (fun _ _ _ h => h) (Or.inl ⟨by rfl, ?_⟩) hHeld ?_ ?_
      rotate_left
      ·
       rintro w' ⟨s0, s1, s2, s3⟩
       go_simp
       with_reducible rfl
      rotate_left
      ·
       simp only [Act.put, List.setIfInBounds_toArray, List.set_cons_zero, List.set_cons_succ, i64_w, i32_w]
       rfl
      refine take_ (i := 5) (N := some 92) (v := ?_) (a' := ?_) #[true, true, true, true, false, true, true, true, true, false, false, false, false, false, false] rfl rfl (take_ofW HT_.out HW_.out (by kernel_rfl)) (fun _ _ _ h => h) (Or.inl ⟨by rfl, ?_⟩) hHeld ?_ ?_
      rotate_left
      ·
       rintro w' ⟨s0, s1, s2, s3⟩
       go_simp
       with_reducible rfl
      rotate_left
      ·
       simp only [Act.put, List.setIfInBounds_toArray, List.set_cons_zero, List.set_cons_succ, i64_w, i32_w]
       rfl
      refine one_ (i := 4) (N := some 91) #[true, true, true, true, true, true, true, true, true, false, false, false, false, false, false] rfl rfl (one_of HT_.out (by kernel_rfl)) (by decide) (fun K hK => ?_)
      refine goes_ Try.func34 (by kernel_rfl) rfl #[.agg #[.int .i64 a, .slice A l.length c], .int .i64 a1, .int .i64 a2, .slice A3 l3.length c3] (by rfl) rfl rfl (by (try simp only [List.map_toArray, List.map_cons, List.map_nil]); first | done | rfl) ?_
      refine (step_Verify.calls 3000 a A c l a1 a2 A3 c3 l3 ev _ HR.out hc HS.out hc3 HE.out).mono ?_
      rintro e w14 ⟨rfl, hb⟩
      refine ⟨_, rfl, ?_⟩
      have hbb := hb; clear hb
      replace HB := Aside0.mk (below_then HB.out HB.out.size hbb)
      replace KK := Aside0.mk (cells_below hbb KK.out)
      replace HR := Aside0.mk (Kd.C_below HR.out hbb)
      replace HS := Aside0.mk (Kd.C_below HS.out hbb)
      replace Hg := Aside0.mk (Kd.C_below Hg.out hbb)
      replace Hx := Aside0.mk (Kd.C_below Hx.out hbb)
      clear hbb
      refine hK.out _ _ KK.out (fun hHeld => ?_)
      clear hK K
      refine norm_ (a' := ?_) ?_ ?_
      rotate_left
      ·
       show Act.put _ (some 91) _ = _
       simp only [Act.put, List.setIfInBounds_toArray, List.set_cons_zero, List.set_cons_succ, i64_w, i32_w]
       rfl
      refine one_ (i := 9) (N := some 96) #[true, true, true, true, true, true, true, true, true, true, false, false, false, false, false] rfl rfl (one_of HT_.out (by kernel_rfl)) (by decide) (fun K hK => ?_)
      refine goes_ Try.func33 (by kernel_rfl) rfl #[.agg #[.int .i64 a, .slice Ag l.length cg], .int .i64 a1, .int .i64 a2, .slice A3 l3.length c3] (by rfl) rfl rfl (by (try simp only [List.map_toArray, List.map_cons, List.map_nil]); first | done | rfl) ?_
      refine (pianolaref01_Verify.calls 3000 a Ag cg l a1 a2 A3 c3 l3 ev _ Hg.out hcg HS.out hc3 HE2.out).mono ?_
      rintro e w15 ⟨rfl, hb⟩
      refine ⟨_, rfl, ?_⟩
      have hbb := hb; clear hb
      replace HB := Aside0.mk (below_then HB.out HB.out.size hbb)
      replace KK := Aside0.mk (cells_below hbb KK.out)
      replace HR := Aside0.mk (Kd.C_below HR.out hbb)
      replace HS := Aside0.mk (Kd.C_below HS.out hbb)
      replace Hg := Aside0.mk (Kd.C_below Hg.out hbb)
      replace Hx := Aside0.mk (Kd.C_below Hx.out hbb)
      clear hbb
      refine hK.out _ _ KK.out (fun hHeld => ?_)
      clear hK K
      refine norm_ (a' := ?_) ?_ ?_
      rotate_left
      ·
       show Act.put _ (some 96) _ = _
       simp only [Act.put, List.setIfInBounds_toArray, List.set_cons_zero, List.set_cons_succ, i64_w, i32_w]
       rfl
      refine pure_ (i := 10) (N := some 97) (v := ?_) (a' := ?_) #[true, true, true, true, true, true, true, true, true, true, true, false, false, false, false] rfl rfl (any_of HT_.out (by kernel_rfl)) (fun _ _ _ h => h) (Or.inl ⟨by rfl, ?_⟩) ?_ ?_
      rotate_left
      ·
       intro w'
       go_simp
       with_reducible rfl
      rotate_left
      ·
       simp only [Act.put, List.setIfInBounds_toArray, List.set_cons_zero, List.set_cons_succ, i64_w, i32_w]
       rfl
      refine pure_ (i := 11) (N := some 98) (v := ?_) (a' := ?_) #[true, true, true, true, true, true, true, true, true, true, true, true, false, false, false] rfl rfl (any_of HT_.out (by kernel_rfl)) (fun _ _ _ h => h) (Or.inl ⟨by rfl, ?_⟩) ?_ ?_
      rotate_left
      ·
       intro w'
       go_simp
       with_reducible rfl
      rotate_left
      ·
       simp only [Act.put, List.setIfInBounds_toArray, List.set_cons_zero, List.set_cons_succ, i64_w, i32_w]
       rfl
      refine one_ (i := 12) (N := some 99) #[true, true, true, true, true, true, true, true, true, true, true, true, true, false, false] rfl rfl (one_of HT_.out (by kernel_rfl)) (by decide) (fun K hK => ?_)
      refine goes_ Try.func15 (by kernel_rfl) rfl #[] (by rfl) rfl rfl (by (try simp only [List.map_toArray, List.map_cons, List.map_nil]); first | done | rfl) ?_
      refine (works_calls _).mono ?_
      rintro e w16 ⟨rfl, hb⟩
      refine ⟨_, rfl, ?_⟩
      have hbb := hb; clear hb
      replace HB := Aside0.mk (below_then HB.out HB.out.size hbb)
      replace KK := Aside0.mk (cells_below hbb KK.out)
      replace HR := Aside0.mk (Kd.C_below HR.out hbb)
      replace HS := Aside0.mk (Kd.C_below HS.out hbb)
      replace Hg := Aside0.mk (Kd.C_below Hg.out hbb)
      replace Hx := Aside0.mk (Kd.C_below Hx.out hbb)
      clear hbb
      refine hK.out _ _ KK.out (fun hHeld => ?_)
      clear hK K
      refine norm_ (a' := ?_) ?_ ?_
      rotate_left
      ·
       show Act.put _ (some 99) _ = _
       simp only [Act.put, List.setIfInBounds_toArray, List.set_cons_zero, List.set_cons_succ, i64_w, i32_w]
       rfl
      refine pure_ (i := 13) (N := some 100) (v := ?_) (a' := ?_) #[true, true, true, true, true, true, true, true, true, true, true, true, true, true, false] rfl rfl (any_of HT_.out (by kernel_rfl)) (fun _ _ _ h => h) (Or.inl ⟨by rfl, ?_⟩) ?_ ?_
      rotate_left
      ·
       intro w'
       go_simp
       with_reducible rfl
      rotate_left
      ·
       simp only [Act.put, List.setIfInBounds_toArray, List.set_cons_zero, List.set_cons_succ, i64_w, i32_w]
       rfl
      refine pure_ (i := 14) (N := some 8) (v := ?_) (a' := ?_) #[true, true, true, true, true, true, true, true, true, true, true, true, true, true, true] rfl rfl (any_of HT_.out (by kernel_rfl)) (fun _ _ _ h => h) (Or.inl ⟨by rfl, ?_⟩) ?_ ?_
      rotate_left
      ·
       intro w'
       go_simp
       with_reducible rfl
      rotate_left
      ·
       simp only [Act.put, List.setIfInBounds_toArray, List.set_cons_zero, List.set_cons_succ, i64_w, i32_w]
       rfl
      refine done_ (done_of HT_.out (by kernel_rfl)) ?_
      try clear hHeld
      go_wp2
      go_ret
      exact ⟨rfl, HB.out⟩

end Go.Proofs.Ytnbcdbkhpdpjgaa.H
