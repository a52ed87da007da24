/- The walk of the law StepSteps: it returns true. Printed by gen_law5.py of this session. -/
import Derived.Test.YtnbcdbkhpdpjgaaHI
import Derived.Test.YtnbcdbkhpdpjgaaHK
import Derived.Test.YtnbcdbkhpdpjgaaHB
namespace Go.Proofs.Ytnbcdbkhpdpjgaa.H
open Go.RowKit Go.Proofs.YtnbcdbkhpdpjgaaW.PrintWords Go.Proofs.YtnbcdbkhpdpjgaaW.PrintLast Go.Proofs.YtnbcdbkhpdpjgaaW.PrintMore
open Go.Shelf Go.Proofs.Ytnbcdbkhpdpjgaa.QA
set_option linter.unusedVariables false
set_option linter.unusedSimpArgs false

theorem cells_below {W W' : World} {p q r t : Addr} {x y z u : Value} (hb : Below W.heap.size W W') (h : W.cell? p = some x ∧ W.cell? q = some y ∧ W.cell? r = some z ∧ W.cell? t = some u) : W'.cell? p = some x ∧ W'.cell? q = some y ∧ W'.cell? r = some z ∧ W'.cell? t = some u :=
  ⟨pw_cell_below hb h.1, pw_cell_below hb h.2.1, pw_cell_below hb h.2.2.1, pw_cell_below hb h.2.2.2⟩
def stepSteps.T4 : Bool × List (List Nat × List Nat) := (true, [([], []), ([0], [0]), ([], []), ([1, 2, 1], [1, 2]), ([3], [3]), ([4], [4]), ([4], [4]), ([5, 3, 0, 1, 2, 3, 4, 5], [5]), ([6, 7, 0, 1, 2, 3, 4, 5, 6, 7], [6])])
def stepSteps.B4 : List Nat := [0, 1, 0, 7, 15, 31, 31, 63, 255]
theorem stepSteps.tab4 : rtab .any (opsOf Try.f5 4) = stepSteps.T4 := by kernel_rfl
theorem stepSteps.bits4 : waitsOk stepSteps.T4.2 stepSteps.B4 = true := by kernel_rfl
def stepSteps.T6 : Bool × List (List Nat × List Nat) := (true, [([], []), ([0], [0]), ([], []), ([1, 2, 1], [1, 2]), ([3], [3]), ([4], [4]), ([4], [4]), ([5, 3, 0, 1, 2, 3, 4, 5], [5]), ([6, 7, 0, 1, 2, 3, 4, 5, 6, 7], [6])])
def stepSteps.B6 : List Nat := [0, 1, 0, 7, 15, 31, 31, 63, 255]
theorem stepSteps.tab6 : rtab .any (opsOf Try.f5 6) = stepSteps.T6 := by kernel_rfl
theorem stepSteps.bits6 : waitsOk stepSteps.T6.2 stepSteps.B6 = true := by kernel_rfl

set_option maxHeartbeats 8000000 in
set_option maxRecDepth 100000 in
theorem stepSteps_calls (a : Int) (A : Option Addr) (c : Nat) (l : List (List Int)) (lo hi : Int) (w : World) (hr : Kd.C (Kd.slice 3 (Kd.int .i64)) w A l.length l) (hc : l.length ≤ c) :
    Calls Try.prog 5 #[.agg #[.int .i64 a, .slice A l.length c], .agg #[.int .i64 lo, .int .i64 hi]] w fun e w' => e = .returned (.bool true) ∧ Below w.heap.size w w' := by
 have HB := Aside0.mk (Below.refl w.heap.size w)
 have HR := Aside0.mk hr
 clear hr
 have hu24 := Try.underlying24
 have hu31 := Try.underlying31
 have hu46 := Try.underlying46
 cases hla : largeOf l with
 | true =>
  have HL := Aside0.mk ((large_f a l 1000 (by omega)).trans (congrArg some hla)); clear hla
  go_enter Try.func5, Try.ntmps5
  go_wp2_with fail
  refine (pianolalaw01_large.calls 1000 a A c l true _ (Kd.C_alloc (Kd.C_alloc HR.out _) _) hc HL.out).mono ?_
  rintro e w1 ⟨rfl, hb⟩
  have K0 := Aside0.mk (pw_cell_below hb (a := ⟨w.heap.size, 0, none⟩) (v := .int .i64 a) ((blk_cell (blk_alloc (blk_new w _) _) 0).trans rfl))
  have K1 := Aside0.mk (pw_cell_below hb (a := ⟨w.heap.size, 1, none⟩) (v := .slice A l.length c) ((blk_cell (blk_alloc (blk_new w _) _) 1).trans rfl))
  have K2 := Aside0.mk (pw_cell_below hb (a := ⟨w.heap.size + 1, 0, none⟩) (v := .int .i64 lo) ((blk_cell (blk_new2 w _ _) 0).trans rfl))
  have K3 := Aside0.mk (pw_cell_below hb (a := ⟨w.heap.size + 1, 1, none⟩) (v := .int .i64 hi) ((blk_cell (blk_new2 w _ _) 1).trans rfl))
  have KK := Aside0.mk (And.intro K0.out (And.intro K1.out (And.intro K2.out K3.out))); clear K0 K1 K2 K3
  have HR' := Aside0.mk (Kd.C_below (Kd.C_alloc (Kd.C_alloc HR.out _) _) hb); clear HR; have HR := HR'; clear HR'
  have HB' := Aside0.mk (below_then (below_alloc (below_alloc (Below.refl w.heap.size w) _) _) (by simp only [World.size_alloc]; omega) hb); clear HB; have HB := HB'; clear HB' hb
  obtain ⟨hk0, hk1, hk2, hk3⟩ := KK.out
  clear hk0 hk1 hk2 hk3
  go_wp2_with fail
  refine (works_calls _).mono ?_
  rintro e wz ⟨rfl, hb⟩
  have HB' := Aside0.mk (below_then HB.out HB.out.size hb); clear HB hb; have HB := HB'; clear HB'
  go_wp2
  go_ret
  exact ⟨rfl, HB.out⟩
 | false =>
  have HL := Aside0.mk ((large_f a l 1000 (by omega)).trans (congrArg some hla)); clear hla
  by_cases c1 : 1 ≤ lo
  ·
   have c1b : decide (1 ≤ lo) = true := decide_eq_true c1
   clear c1
   by_cases c2 : hi ≤ 1000
   ·
    have c2b : decide (hi ≤ 1000) = true := decide_eq_true c2
    clear c2
    by_cases c3 : 30 < wrap64 (hi - lo)
    ·
     have c3b : decide (30 < wrap64 (hi - lo)) = true := decide_eq_true c3
     clear c3
     go_enter Try.func5, Try.ntmps5
     go_wp2_with fail
     refine (pianolalaw01_large.calls 1000 a A c l false _ (Kd.C_alloc (Kd.C_alloc HR.out _) _) hc HL.out).mono ?_
     rintro e w2 ⟨rfl, hb⟩
     have K0 := Aside0.mk (pw_cell_below hb (a := ⟨w.heap.size, 0, none⟩) (v := .int .i64 a) ((blk_cell (blk_alloc (blk_new w _) _) 0).trans rfl))
     have K1 := Aside0.mk (pw_cell_below hb (a := ⟨w.heap.size, 1, none⟩) (v := .slice A l.length c) ((blk_cell (blk_alloc (blk_new w _) _) 1).trans rfl))
     have K2 := Aside0.mk (pw_cell_below hb (a := ⟨w.heap.size + 1, 0, none⟩) (v := .int .i64 lo) ((blk_cell (blk_new2 w _ _) 0).trans rfl))
     have K3 := Aside0.mk (pw_cell_below hb (a := ⟨w.heap.size + 1, 1, none⟩) (v := .int .i64 hi) ((blk_cell (blk_new2 w _ _) 1).trans rfl))
     have KK := Aside0.mk (And.intro K0.out (And.intro K1.out (And.intro K2.out K3.out))); clear K0 K1 K2 K3
     have HR' := Aside0.mk (Kd.C_below (Kd.C_alloc (Kd.C_alloc HR.out _) _) hb); clear HR; have HR := HR'; clear HR'
     have HB' := Aside0.mk (below_then (below_alloc (below_alloc (Below.refl w.heap.size w) _) _) (by simp only [World.size_alloc]; omega) hb); clear HB; have HB := HB'; clear HB' hb
     obtain ⟨hk0, hk1, hk2, hk3⟩ := KK.out
     go_wp2_with fail
     refine (works_calls _).mono ?_
     rintro e wz ⟨rfl, hb⟩
     have HB' := Aside0.mk (below_then HB.out HB.out.size hb); clear HB hb; have HB := HB'; clear HB'
     go_wp2
     go_ret
     exact ⟨rfl, HB.out⟩
    ·
     have c3b : decide (30 < wrap64 (hi - lo)) = false := decide_eq_false c3
     clear c3
     obtain ⟨r, n, hO, hO2, hOl⟩ := steps_same a l lo hi 20000 (by omega)
     obtain ⟨q, m, hS, hS2⟩ := greatest_same a l lo hi 20000 (by omega)
     have HO := Aside0.mk hO; have HO2 := Aside0.mk hO2; have HS := Aside0.mk hS; have HS2 := Aside0.mk hS2; have HN := Aside0.mk (numbers_f r (by omega) 4000 (by omega)); clear hO hO2 hOl hS hS2
     go_enter Try.func5, Try.ntmps5
     go_wp2_with fail
     refine (pianolalaw01_large.calls 1000 a A c l false _ (Kd.C_alloc (Kd.C_alloc HR.out _) _) hc HL.out).mono ?_
     rintro e w3 ⟨rfl, hb⟩
     have K0 := Aside0.mk (pw_cell_below hb (a := ⟨w.heap.size, 0, none⟩) (v := .int .i64 a) ((blk_cell (blk_alloc (blk_new w _) _) 0).trans rfl))
     have K1 := Aside0.mk (pw_cell_below hb (a := ⟨w.heap.size, 1, none⟩) (v := .slice A l.length c) ((blk_cell (blk_alloc (blk_new w _) _) 1).trans rfl))
     have K2 := Aside0.mk (pw_cell_below hb (a := ⟨w.heap.size + 1, 0, none⟩) (v := .int .i64 lo) ((blk_cell (blk_new2 w _ _) 0).trans rfl))
     have K3 := Aside0.mk (pw_cell_below hb (a := ⟨w.heap.size + 1, 1, none⟩) (v := .int .i64 hi) ((blk_cell (blk_new2 w _ _) 1).trans rfl))
     have KK := Aside0.mk (And.intro K0.out (And.intro K1.out (And.intro K2.out K3.out))); clear K0 K1 K2 K3
     have HR' := Aside0.mk (Kd.C_below (Kd.C_alloc (Kd.C_alloc HR.out _) _) hb); clear HR; have HR := HR'; clear HR'
     have HB' := Aside0.mk (below_then (below_alloc (below_alloc (Below.refl w.heap.size w) _) _) (by simp only [World.size_alloc]; omega) hb); clear HB; have HB := HB'; clear HB' hb
     obtain ⟨hk0, hk1, hk2, hk3⟩ := KK.out
     go_wp2_with fail
     try clear hk0 hk1 hk2 hk3
     refine (step_Steps.calls a A c l lo hi r n _ HR.out hc HO.out).mono ?_
     rintro e w4 ⟨v, rfl, hR, hb⟩
     have hbb := hb; clear hb
     replace HB := Aside0.mk (below_then HB.out HB.out.size hbb)
     replace KK := Aside0.mk (cells_below hbb KK.out)
     replace HR := Aside0.mk (Kd.C_below HR.out hbb)
     clear hbb
     obtain ⟨Ax, cx, rfl, hcx, hCx⟩ := Kd.R_reads hR
     clear hR
     have Hx := Aside0.mk hCx; clear hCx
     obtain ⟨hk0, hk1, hk2, hk3⟩ := KK.out
     go_wp2_with fail
     try clear hk0 hk1 hk2 hk3
     refine start_ (n := 9) (S := fun w' => w'.cell? ⟨w.heap.size, 0, none⟩ = some (.int .i64 a) ∧ w'.cell? ⟨w.heap.size, 1, none⟩ = some (.slice A l.length c) ∧ w'.cell? ⟨w.heap.size + 1, 0, none⟩ = some (.int .i64 lo) ∧ w'.cell? ⟨w.heap.size + 1, 1, none⟩ = some (.int .i64 hi)) (ds := []) #[false, false, false, false, false, false, false, false, false] (by kernel_rfl) rfl rfl KK.out (fun hHeld => ?_)
     refine with_tabW stepSteps.tab4 stepSteps.bits4 (fun HT_ HW_ => ?_)
     have hbb : Below w4.heap.size w4 w4.drew := below_drew (Below.refl _ _)
     replace HB := Aside0.mk (below_then HB.out HB.out.size hbb)
     replace KK := Aside0.mk (cells_below hbb KK.out)
     replace HR := Aside0.mk (Kd.C_below HR.out hbb)
     replace Hx := Aside0.mk (Kd.C_below Hx.out hbb)
     clear hbb
     generalize w4.drew = w5 at HB KK HR Hx hHeld ⊢
     refine take_ (i := 0) (N := some 41) (v := ?_) (a' := ?_) #[true, false, false, false, false, false, false, false, false] rfl rfl (take_ofW HT_.out HW_.out (by kernel_rfl)) (fun _ _ _ h => h) (Or.inl ⟨by rfl, ?_⟩) hHeld ?_ ?_
     rotate_left
     ·
      rintro w' ⟨s0, s1, s2, s3⟩
      go_simp
      with_reducible rfl
     rotate_left
     ·
      simp only [Act.put, List.setIfInBounds_toArray, List.set_cons_zero, List.set_cons_succ, i64_w, i32_w]
      rfl
     refine take_ (i := 2) (N := some 43) (v := ?_) (a' := ?_) #[true, false, true, false, false, false, false, false, false] rfl rfl (take_ofW HT_.out HW_.out (by kernel_rfl)) (fun _ _ _ h => h) (Or.inl ⟨by rfl, ?_⟩) hHeld ?_ ?_
     rotate_left
     ·
      rintro w' ⟨s0, s1, s2, s3⟩
      go_simp
      with_reducible rfl
     rotate_left
     ·
      simp only [Act.put, List.setIfInBounds_toArray, List.set_cons_zero, List.set_cons_succ, i64_w, i32_w]
      rfl
     refine one_ (i := 1) (N := some 42) #[true, true, true, false, false, false, false, false, false] rfl rfl (one_of HT_.out (by kernel_rfl)) (by decide) (fun K hK => ?_)
     refine goes_ Try.func20 (by kernel_rfl) rfl #[.agg #[.int .i64 a, .slice A l.length c]] (by rfl) rfl rfl (by (try simp only [List.map_toArray, List.map_cons, List.map_nil]); first | done | rfl) ?_
     refine (given_calls' a A c l _ HR.out hc).mono ?_
     rintro e w6 ⟨Ag, cg, rfl, hcg, hCg, hb⟩
     refine ⟨_, rfl, ?_⟩
     have hbb := hb; clear hb
     replace HB := Aside0.mk (below_then HB.out HB.out.size hbb)
     replace KK := Aside0.mk (cells_below hbb KK.out)
     replace HR := Aside0.mk (Kd.C_below HR.out hbb)
     replace Hx := Aside0.mk (Kd.C_below Hx.out hbb)
     clear hbb
     have Hg := Aside0.mk hCg; clear hCg
     refine hK.out _ _ KK.out (fun hHeld => ?_)
     clear hK K
     refine norm_ (a' := ?_) ?_ ?_
     rotate_left
     ·
      show Act.put _ (some 42) _ = _
      simp only [Act.put, List.setIfInBounds_toArray, List.set_cons_zero, List.set_cons_succ, i64_w, i32_w]
      rfl
     refine one_ (i := 3) (N := some 44) #[true, true, true, true, false, false, false, false, false] rfl rfl (one_of HT_.out (by kernel_rfl)) (by decide) (fun K hK => ?_)
     refine goes_ Try.func28 (by kernel_rfl) rfl #[.agg #[.int .i64 a, .slice Ag l.length cg], .agg #[.int .i64 lo, .int .i64 hi]] (by rfl) rfl rfl (by (try simp only [List.map_toArray, List.map_cons, List.map_nil]); first | done | rfl) ?_
     refine (pianolaref01_Steps.calls 20000 a Ag cg l lo hi r n _ Hg.out hcg HO2.out).mono ?_
     rintro e w7 ⟨v, rfl, hR, hb⟩
     refine ⟨_, rfl, ?_⟩
     have hbb := hb; clear hb
     clear Hg
     replace HB := Aside0.mk (below_then HB.out HB.out.size hbb)
     replace KK := Aside0.mk (cells_below hbb KK.out)
     replace HR := Aside0.mk (Kd.C_below HR.out hbb)
     replace Hx := Aside0.mk (Kd.C_below Hx.out hbb)
     clear hbb
     clear hcg
     obtain ⟨Ay, cy, rfl, hcy, hCy⟩ := Kd.R_reads hR
     clear hR
     have Hy := Aside0.mk hCy; clear hCy
     refine hK.out _ _ KK.out (fun hHeld => ?_)
     clear hK K
     refine norm_ (a' := ?_) ?_ ?_
     rotate_left
     ·
      show Act.put _ (some 44) _ = _
      simp only [Act.put, List.setIfInBounds_toArray, List.set_cons_zero, List.set_cons_succ, i64_w, i32_w]
      rfl
     refine pure_ (i := 4) (N := some 40) (v := ?_) (a' := ?_) #[true, true, true, true, true, false, false, false, false] rfl rfl (any_of HT_.out (by kernel_rfl)) (fun _ _ _ h => h) (Or.inl ⟨by rfl, ?_⟩) ?_ ?_
     rotate_left
     ·
      intro w'
      go_simp
      with_reducible rfl
     rotate_left
     ·
      simp only [Act.put, List.setIfInBounds_toArray, List.set_cons_zero, List.set_cons_succ, i64_w, i32_w]
      rfl
     refine pure_ (i := 5) (N := some 45) (v := ?_) (a' := ?_) #[true, true, true, true, true, true, false, false, false] rfl rfl (any_of HT_.out (by kernel_rfl)) (fun _ _ _ h => h) (Or.inl ⟨by rfl, ?_⟩) ?_ ?_
     rotate_left
     ·
      intro w'
      go_simp
      with_reducible rfl
     rotate_left
     ·
      simp only [Act.put, List.setIfInBounds_toArray, List.set_cons_zero, List.set_cons_succ, i64_w, i32_w]
      rfl
     refine pure_ (i := 6) (N := some 46) (v := ?_) (a' := ?_) #[true, true, true, true, true, true, true, false, false] rfl rfl (any_of HT_.out (by kernel_rfl)) (fun _ _ _ h => h) (Or.inl ⟨by rfl, ?_⟩) ?_ ?_
     rotate_left
     ·
      intro w'
      go_simp
      with_reducible rfl
     rotate_left
     ·
      simp only [Act.put, List.setIfInBounds_toArray, List.set_cons_zero, List.set_cons_succ, i64_w, i32_w]
      rfl
     refine pure_ (i := 7) (N := some 7) (v := ?_) (a' := ?_) #[true, true, true, true, true, true, true, true, false] rfl rfl (any_of HT_.out (by kernel_rfl)) (fun _ _ _ h => h) (Or.inl ⟨by rfl, ?_⟩) ?_ ?_
     rotate_left
     ·
      intro w'
      go_simp
      with_reducible rfl
     rotate_left
     ·
      simp only [Act.put, List.setIfInBounds_toArray, List.set_cons_zero, List.set_cons_succ, i64_w, i32_w]
      rfl
     refine pure_ (i := 8) (N := some 8) (v := ?_) (a' := ?_) #[true, true, true, true, true, true, true, true, true] rfl rfl (any_of HT_.out (by kernel_rfl)) (fun _ _ _ h => h) (Or.inl ⟨by rfl, ?_⟩) ?_ ?_
     rotate_left
     ·
      intro w'
      go_simp
      with_reducible rfl
     rotate_left
     ·
      simp only [Act.put, List.setIfInBounds_toArray, List.set_cons_zero, List.set_cons_succ, i64_w, i32_w]
      rfl
     refine done_ (done_of HT_.out (by kernel_rfl)) ?_
     try clear hHeld
     obtain ⟨hk0, hk1, hk2, hk3⟩ := KK.out
     go_wp2_with fail
     try clear hk0 hk1 hk2 hk3
     refine (step_Greatest.calls a A c l lo hi q m _ HR.out hc HS.out).mono ?_
     rintro e w8 ⟨rfl, hb⟩
     have hbb := hb; clear hb
     replace HB := Aside0.mk (below_then HB.out HB.out.size hbb)
     replace KK := Aside0.mk (cells_below hbb KK.out)
     replace HR := Aside0.mk (Kd.C_below HR.out hbb)
     replace Hx := Aside0.mk (Kd.C_below Hx.out hbb)
     replace Hy := Aside0.mk (Kd.C_below Hy.out hbb)
     clear hbb
     obtain ⟨hk0, hk1, hk2, hk3⟩ := KK.out
     go_wp2_with fail
     try clear hk0 hk1 hk2 hk3
     refine start_ (n := 9) (S := fun w' => w'.cell? ⟨w.heap.size, 0, none⟩ = some (.int .i64 a) ∧ w'.cell? ⟨w.heap.size, 1, none⟩ = some (.slice A l.length c) ∧ w'.cell? ⟨w.heap.size + 1, 0, none⟩ = some (.int .i64 lo) ∧ w'.cell? ⟨w.heap.size + 1, 1, none⟩ = some (.int .i64 hi)) (ds := []) #[false, false, false, false, false, false, false, false, false] (by kernel_rfl) rfl rfl KK.out (fun hHeld => ?_)
     refine with_tabW stepSteps.tab6 stepSteps.bits6 (fun HT_ HW_ => ?_)
     have hbb : Below w8.heap.size w8 w8.drew := below_drew (Below.refl _ _)
     replace HB := Aside0.mk (below_then HB.out HB.out.size hbb)
     replace KK := Aside0.mk (cells_below hbb KK.out)
     replace HR := Aside0.mk (Kd.C_below HR.out hbb)
     replace Hx := Aside0.mk (Kd.C_below Hx.out hbb)
     replace Hy := Aside0.mk (Kd.C_below Hy.out hbb)
     clear hbb
     generalize w8.drew = w9 at HB KK HR Hx Hy hHeld ⊢
     refine take_ (i := 0) (N := some 54) (v := ?_) (a' := ?_) #[true, false, false, false, false, false, false, false, false] rfl rfl (take_ofW HT_.out HW_.out (by kernel_rfl)) (fun _ _ _ h => h) (Or.inl ⟨by rfl, ?_⟩) hHeld ?_ ?_
     rotate_left
     ·
      rintro w' ⟨s0, s1, s2, s3⟩
      go_simp
      with_reducible rfl
     rotate_left
     ·
      simp only [Act.put, List.setIfInBounds_toArray, List.set_cons_zero, List.set_cons_succ, i64_w, i32_w]
      rfl
     refine take_ (i := 2) (N := some 56) (v := ?_) (a' := ?_) #[true, false, true, false, false, false, false, false, false] rfl rfl (take_ofW HT_.out HW_.out (by kernel_rfl)) (fun _ _ _ h => h) (Or.inl ⟨by rfl, ?_⟩) hHeld ?_ ?_
     rotate_left
     ·
      rintro w' ⟨s0, s1, s2, s3⟩
      go_simp
      with_reducible rfl
     rotate_left
     ·
      simp only [Act.put, List.setIfInBounds_toArray, List.set_cons_zero, List.set_cons_succ, i64_w, i32_w]
      rfl
     refine one_ (i := 1) (N := some 55) #[true, true, true, false, false, false, false, false, false] rfl rfl (one_of HT_.out (by kernel_rfl)) (by decide) (fun K hK => ?_)
     refine goes_ Try.func20 (by kernel_rfl) rfl #[.agg #[.int .i64 a, .slice A l.length c]] (by rfl) rfl rfl (by (try simp only [List.map_toArray, List.map_cons, List.map_nil]); first | done | rfl) ?_
     refine (given_calls' a A c l _ HR.out hc).mono ?_
     rintro e w10 ⟨Ag, cg, rfl, hcg, hCg, hb⟩
     refine ⟨_, rfl, ?_⟩
     have hbb := hb; clear hb
     replace HB := Aside0.mk (below_then HB.out HB.out.size hbb)
     replace KK := Aside0.mk (cells_below hbb KK.out)
     replace HR := Aside0.mk (Kd.C_below HR.out hbb)
     replace Hx := Aside0.mk (Kd.C_below Hx.out hbb)
     replace Hy := Aside0.mk (Kd.C_below Hy.out hbb)
     clear hbb
     have Hg := Aside0.mk hCg; clear hCg
     refine hK.out _ _ KK.out (fun hHeld => ?_)
     clear hK K
     refine norm_ (a' := ?_) ?_ ?_
     rotate_left
     ·
      show Act.put _ (some 55) _ = _
      simp only [Act.put, List.setIfInBounds_toArray, List.set_cons_zero, List.set_cons_succ, i64_w, i32_w]
      rfl
     refine one_ (i := 3) (N := some 57) #[true, true, true, true, false, false, false, false, false] rfl rfl (one_of HT_.out (by kernel_rfl)) (by decide) (fun K hK => ?_)
     refine goes_ Try.func30 (by kernel_rfl) rfl #[.agg #[.int .i64 a, .slice Ag l.length cg], .agg #[.int .i64 lo, .int .i64 hi]] (by rfl) rfl rfl (by (try simp only [List.map_toArray, List.map_cons, List.map_nil]); first | done | rfl) ?_
     refine (pianolaref01_Greatest.calls 20000 a Ag cg l lo hi q m _ Hg.out hcg HS2.out).mono ?_
     rintro e w11 ⟨rfl, hb⟩
     refine ⟨_, rfl, ?_⟩
     have hbb := hb; clear hb
     clear Hg
     replace HB := Aside0.mk (below_then HB.out HB.out.size hbb)
     replace KK := Aside0.mk (cells_below hbb KK.out)
     replace HR := Aside0.mk (Kd.C_below HR.out hbb)
     replace Hx := Aside0.mk (Kd.C_below Hx.out hbb)
     replace Hy := Aside0.mk (Kd.C_below Hy.out hbb)
     clear hbb
     clear hcg
     refine hK.out _ _ KK.out (fun hHeld => ?_)
     clear hK K
     refine norm_ (a' := ?_) ?_ ?_
     rotate_left
     ·
      show Act.put _ (some 57) _ = _
      simp only [Act.put, List.setIfInBounds_toArray, List.set_cons_zero, List.set_cons_succ, i64_w, i32_w]
      rfl
     refine pure_ (i := 4) (N := some 53) (v := ?_) (a' := ?_) #[true, true, true, true, true, false, false, false, false] rfl rfl (any_of HT_.out (by kernel_rfl)) (fun _ _ _ h => h) (Or.inl ⟨by rfl, ?_⟩) ?_ ?_
     rotate_left
     ·
      intro w'
      go_simp
      with_reducible rfl
     rotate_left
     ·
      simp only [Act.put, List.setIfInBounds_toArray, List.set_cons_zero, List.set_cons_succ, i64_w, i32_w]
      rfl
     refine pure_ (i := 5) (N := some 58) (v := ?_) (a' := ?_) #[true, true, true, true, true, true, false, false, false] rfl rfl (any_of HT_.out (by kernel_rfl)) (fun _ _ _ h => h) (Or.inl ⟨by rfl, ?_⟩) ?_ ?_
     rotate_left
     ·
      intro w'
      go_simp
      with_reducible rfl
     rotate_left
     ·
      simp only [Act.put, List.setIfInBounds_toArray, List.set_cons_zero, List.set_cons_succ, i64_w, i32_w]
      rfl
     refine pure_ (i := 6) (N := some 59) (v := ?_) (a' := ?_) #[true, true, true, true, true, true, true, false, false] rfl rfl (any_of HT_.out (by kernel_rfl)) (fun _ _ _ h => h) (Or.inl ⟨by rfl, ?_⟩) ?_ ?_
     rotate_left
     ·
      intro w'
      go_simp
      with_reducible rfl
     rotate_left
     ·
      simp only [Act.put, List.setIfInBounds_toArray, List.set_cons_zero, List.set_cons_succ, i64_w, i32_w]
      rfl
     refine pure_ (i := 7) (N := some 11) (v := ?_) (a' := ?_) #[true, true, true, true, true, true, true, true, false] rfl rfl (any_of HT_.out (by kernel_rfl)) (fun _ _ _ h => h) (Or.inl ⟨by rfl, ?_⟩) ?_ ?_
     rotate_left
     ·
      intro w'
      go_simp
      with_reducible rfl
     rotate_left
     ·
      simp only [Act.put, List.setIfInBounds_toArray, List.set_cons_zero, List.set_cons_succ, i64_w, i32_w]
      rfl
     refine pure_ (i := 8) (N := some 12) (v := ?_) (a' := ?_) #[true, true, true, true, true, true, true, true, true] rfl rfl (any_of HT_.out (by kernel_rfl)) (fun _ _ _ h => h) (Or.inl ⟨by rfl, ?_⟩) ?_ ?_
     rotate_left
     ·
      intro w'
      go_simp
      with_reducible rfl
     rotate_left
     ·
      simp only [Act.put, List.setIfInBounds_toArray, List.set_cons_zero, List.set_cons_succ, i64_w, i32_w]
      rfl
     refine done_ (done_of HT_.out (by kernel_rfl)) ?_
     try clear hHeld
     obtain ⟨hk0, hk1, hk2, hk3⟩ := KK.out
     go_wp2_with fail
     try clear hk0 hk1 hk2 hk3
     refine (pianolalaw01_numbers.calls 4000 Ax cx r Ay cy r true _ Hx.out hcx Hy.out hcy HN.out).mono ?_
     rintro e w12 ⟨rfl, hd⟩
     have hbb := hd.below; clear hd
     replace HB := Aside0.mk (below_then HB.out HB.out.size hbb)
     clear Hx
     clear Hy
     replace KK := Aside0.mk (cells_below hbb KK.out)
     replace HR := Aside0.mk (Kd.C_below HR.out hbb)
     clear hbb
     go_wp2_with fail
     refine (works_calls _).mono ?_
     rintro e wz ⟨rfl, hb⟩
     have HB' := Aside0.mk (below_then HB.out HB.out.size hb); clear HB hb; have HB := HB'; clear HB'
     go_wp2
     go_ret
     exact ⟨rfl, HB.out⟩
   ·
    have c2b : decide (hi ≤ 1000) = false := decide_eq_false c2
    clear c2
    obtain ⟨r, n, hO, hO2, hOl⟩ := steps_same a l lo hi 20000 (by omega)
    obtain ⟨q, m, hS, hS2⟩ := greatest_same a l lo hi 20000 (by omega)
    have HO := Aside0.mk hO; have HO2 := Aside0.mk hO2; have HS := Aside0.mk hS; have HS2 := Aside0.mk hS2; have HN := Aside0.mk (numbers_f r (by omega) 4000 (by omega)); clear hO hO2 hOl hS hS2
    go_enter Try.func5, Try.ntmps5
    go_wp2_with fail
    refine (pianolalaw01_large.calls 1000 a A c l false _ (Kd.C_alloc (Kd.C_alloc HR.out _) _) hc HL.out).mono ?_
    rintro e w13 ⟨rfl, hb⟩
    have K0 := Aside0.mk (pw_cell_below hb (a := ⟨w.heap.size, 0, none⟩) (v := .int .i64 a) ((blk_cell (blk_alloc (blk_new w _) _) 0).trans rfl))
    have K1 := Aside0.mk (pw_cell_below hb (a := ⟨w.heap.size, 1, none⟩) (v := .slice A l.length c) ((blk_cell (blk_alloc (blk_new w _) _) 1).trans rfl))
    have K2 := Aside0.mk (pw_cell_below hb (a := ⟨w.heap.size + 1, 0, none⟩) (v := .int .i64 lo) ((blk_cell (blk_new2 w _ _) 0).trans rfl))
    have K3 := Aside0.mk (pw_cell_below hb (a := ⟨w.heap.size + 1, 1, none⟩) (v := .int .i64 hi) ((blk_cell (blk_new2 w _ _) 1).trans rfl))
    have KK := Aside0.mk (And.intro K0.out (And.intro K1.out (And.intro K2.out K3.out))); clear K0 K1 K2 K3
    have HR' := Aside0.mk (Kd.C_below (Kd.C_alloc (Kd.C_alloc HR.out _) _) hb); clear HR; have HR := HR'; clear HR'
    have HB' := Aside0.mk (below_then (below_alloc (below_alloc (Below.refl w.heap.size w) _) _) (by simp only [World.size_alloc]; omega) hb); clear HB; have HB := HB'; clear HB' hb
    obtain ⟨hk0, hk1, hk2, hk3⟩ := KK.out
    go_wp2_with fail
    try clear hk0 hk1 hk2 hk3
    refine (step_Steps.calls a A c l lo hi r n _ HR.out hc HO.out).mono ?_
    rintro e w14 ⟨v, rfl, hR, hb⟩
    have hbb := hb; clear hb
    replace HB := Aside0.mk (below_then HB.out HB.out.size hbb)
    replace KK := Aside0.mk (cells_below hbb KK.out)
    replace HR := Aside0.mk (Kd.C_below HR.out hbb)
    clear hbb
    obtain ⟨Ax, cx, rfl, hcx, hCx⟩ := Kd.R_reads hR
    clear hR
    have Hx := Aside0.mk hCx; clear hCx
    obtain ⟨hk0, hk1, hk2, hk3⟩ := KK.out
    go_wp2_with fail
    try clear hk0 hk1 hk2 hk3
    refine start_ (n := 9) (S := fun w' => w'.cell? ⟨w.heap.size, 0, none⟩ = some (.int .i64 a) ∧ w'.cell? ⟨w.heap.size, 1, none⟩ = some (.slice A l.length c) ∧ w'.cell? ⟨w.heap.size + 1, 0, none⟩ = some (.int .i64 lo) ∧ w'.cell? ⟨w.heap.size + 1, 1, none⟩ = some (.int .i64 hi)) (ds := []) #[false, false, false, false, false, false, false, false, false] (by kernel_rfl) rfl rfl KK.out (fun hHeld => ?_)
    refine with_tabW stepSteps.tab4 stepSteps.bits4 (fun HT_ HW_ => ?_)
    have hbb : Below w14.heap.size w14 w14.drew := below_drew (Below.refl _ _)
    replace HB := Aside0.mk (below_then HB.out HB.out.size hbb)
    replace KK := Aside0.mk (cells_below hbb KK.out)
    replace HR := Aside0.mk (Kd.C_below HR.out hbb)
    replace Hx := Aside0.mk (Kd.C_below Hx.out hbb)
    clear hbb
    generalize w14.drew = w15 at HB KK HR Hx hHeld ⊢
    refine take_ (i := 0) (N := some 41) (v := ?_) (a' := ?_) #[true, false, false, false, false, false, false, false, false] rfl rfl (take_ofW HT_.out HW_.out (by kernel_rfl)) (fun _ _ _ h => h) (Or.inl ⟨by rfl, ?_⟩) hHeld ?_ ?_
    rotate_left
    ·
     rintro w' ⟨s0, s1, s2, s3⟩
     go_simp
     with_reducible rfl
    rotate_left
    ·
     simp only [Act.put, List.setIfInBounds_toArray, List.set_cons_zero, List.set_cons_succ, i64_w, i32_w]
     rfl
    refine take_ (i := 2) (N := some 43) (v := ?_) (a' := ?_) #[true, false, true, false, false, false, false, false, false] rfl rfl (take_ofW HT_.out HW_.out (by kernel_rfl)) (fun _ _ _ h => h) (Or.inl ⟨by rfl, ?_⟩) hHeld ?_ ?_
    rotate_left
    ·
     rintro w' ⟨s0, s1, s2, s3⟩
     go_simp
     with_reducible rfl
    rotate_left
    ·
     simp only [Act.put, List.setIfInBounds_toArray, List.set_cons_zero, List.set_cons_succ, i64_w, i32_w]
     rfl
    refine one_ (i := 1) (N := some 42) #[true, true, true, false, false, false, false, false, false] rfl rfl (one_of HT_.out (by kernel_rfl)) (by decide) (fun K hK => ?_)
    refine goes_ Try.func20 (by kernel_rfl) rfl #[.agg #[.int .i64 a, .slice A l.length c]] (by rfl) rfl rfl (by (try simp only [List.map_toArray, List.map_cons, List.map_nil]); first | done | rfl) ?_
    refine (given_calls' a A c l _ HR.out hc).mono ?_
    rintro e w16 ⟨Ag, cg, rfl, hcg, hCg, hb⟩
    refine ⟨_, rfl, ?_⟩
    have hbb := hb; clear hb
    replace HB := Aside0.mk (below_then HB.out HB.out.size hbb)
    replace KK := Aside0.mk (cells_below hbb KK.out)
    replace HR := Aside0.mk (Kd.C_below HR.out hbb)
    replace Hx := Aside0.mk (Kd.C_below Hx.out hbb)
    clear hbb
    have Hg := Aside0.mk hCg; clear hCg
    refine hK.out _ _ KK.out (fun hHeld => ?_)
    clear hK K
    refine norm_ (a' := ?_) ?_ ?_
    rotate_left
    ·
     show Act.put _ (some 42) _ = _
     simp only [Act.put, List.setIfInBounds_toArray, List.set_cons_zero, List.set_cons_succ, i64_w, i32_w]
     rfl
    refine one_ (i := 3) (N := some 44) #[true, true, true, true, false, false, false, false, false] rfl rfl (one_of HT_.out (by kernel_rfl)) (by decide) (fun K hK => ?_)
    refine goes_ Try.func28 (by kernel_rfl) rfl #[.agg #[.int .i64 a, .slice Ag l.length cg], .agg #[.int .i64 lo, .int .i64 hi]] (by rfl) rfl rfl (by (try simp only [List.map_toArray, List.map_cons, List.map_nil]); first | done | rfl) ?_
    refine (pianolaref01_Steps.calls 20000 a Ag cg l lo hi r n _ Hg.out hcg HO2.out).mono ?_
    rintro e w17 ⟨v, rfl, hR, hb⟩
    refine ⟨_, rfl, ?_⟩
    have hbb := hb; clear hb
    clear Hg
    replace HB := Aside0.mk (below_then HB.out HB.out.size hbb)
    replace KK := Aside0.mk (cells_below hbb KK.out)
    replace HR := Aside0.mk (Kd.C_below HR.out hbb)
    replace Hx := Aside0.mk (Kd.C_below Hx.out hbb)
    clear hbb
    clear hcg
    obtain ⟨Ay, cy, rfl, hcy, hCy⟩ := Kd.R_reads hR
    clear hR
    have Hy := Aside0.mk hCy; clear hCy
    refine hK.out _ _ KK.out (fun hHeld => ?_)
    clear hK K
    refine norm_ (a' := ?_) ?_ ?_
    rotate_left
    ·
     show Act.put _ (some 44) _ = _
     simp only [Act.put, List.setIfInBounds_toArray, List.set_cons_zero, List.set_cons_succ, i64_w, i32_w]
     rfl
    refine pure_ (i := 4) (N := some 40) (v := ?_) (a' := ?_) #[true, true, true, true, true, false, false, false, false] rfl rfl (any_of HT_.out (by kernel_rfl)) (fun _ _ _ h => h) (Or.inl ⟨by rfl, ?_⟩) ?_ ?_
    rotate_left
    ·
     intro w'
     go_simp
     with_reducible rfl
    rotate_left
    ·
     simp only [Act.put, List.setIfInBounds_toArray, List.set_cons_zero, List.set_cons_succ, i64_w, i32_w]
     rfl
    refine pure_ (i := 5) (N := some 45) (v := ?_) (a' := ?_) #[true, true, true, true, true, true, false, false, false] rfl rfl (any_of HT_.out (by kernel_rfl)) (fun _ _ _ h => h) (Or.inl ⟨by rfl, ?_⟩) ?_ ?_
    rotate_left
    ·
     intro w'
     go_simp
     with_reducible rfl
    rotate_left
    ·
     simp only [Act.put, List.setIfInBounds_toArray, List.set_cons_zero, List.set_cons_succ, i64_w, i32_w]
     rfl
    refine pure_ (i := 6) (N := some 46) (v := ?_) (a' := ?_) #[true, true, true, true, true, true, true, false, false] rfl rfl (any_of HT_.out (by kernel_rfl)) (fun _ _ _ h => h) (Or.inl ⟨by rfl, ?_⟩) ?_ ?_
    rotate_left
    ·
     intro w'
     go_simp
     with_reducible rfl
    rotate_left
    ·
     simp only [Act.put, List.setIfInBounds_toArray, List.set_cons_zero, List.set_cons_succ, i64_w, i32_w]
     rfl
    refine pure_ (i := 7) (N := some 7) (v := ?_) (a' := ?_) #[true, true, true, true, true, true, true, true, false] rfl rfl (any_of HT_.out (by kernel_rfl)) (fun _ _ _ h => h) (Or.inl ⟨by rfl, ?_⟩) ?_ ?_
    rotate_left
    ·
     intro w'
     go_simp
     with_reducible rfl
    rotate_left
    ·
     simp only [Act.put, List.setIfInBounds_toArray, List.set_cons_zero, List.set_cons_succ, i64_w, i32_w]
     rfl
    refine pure_ (i := 8) (N := some 8) (v := ?_) (a' := ?_) #[true, true, true, true, true, true, true, true, true] rfl rfl (any_of HT_.out (by kernel_rfl)) (fun _ _ _ h => h) (Or.inl ⟨by rfl, ?_⟩) ?_ ?_
    rotate_left
    ·
     intro w'
     go_simp
     with_reducible rfl
    rotate_left
    ·
     simp only [Act.put, List.setIfInBounds_toArray, List.set_cons_zero, List.set_cons_succ, i64_w, i32_w]
     rfl
    refine done_ (done_of HT_.out (by kernel_rfl)) ?_
    try clear hHeld
    obtain ⟨hk0, hk1, hk2, hk3⟩ := KK.out
    go_wp2_with fail
    try clear hk0 hk1 hk2 hk3
    refine (step_Greatest.calls a A c l lo hi q m _ HR.out hc HS.out).mono ?_
    rintro e w18 ⟨rfl, hb⟩
    have hbb := hb; clear hb
    replace HB := Aside0.mk (below_then HB.out HB.out.size hbb)
    replace KK := Aside0.mk (cells_below hbb KK.out)
    replace HR := Aside0.mk (Kd.C_below HR.out hbb)
    replace Hx := Aside0.mk (Kd.C_below Hx.out hbb)
    replace Hy := Aside0.mk (Kd.C_below Hy.out hbb)
    clear hbb
    obtain ⟨hk0, hk1, hk2, hk3⟩ := KK.out
    go_wp2_with fail
    try clear hk0 hk1 hk2 hk3
    refine start_ (n := 9) (S := fun w' => w'.cell? ⟨w.heap.size, 0, none⟩ = some (.int .i64 a) ∧ w'.cell? ⟨w.heap.size, 1, none⟩ = some (.slice A l.length c) ∧ w'.cell? ⟨w.heap.size + 1, 0, none⟩ = some (.int .i64 lo) ∧ w'.cell? ⟨w.heap.size + 1, 1, none⟩ = some (.int .i64 hi)) (ds := []) #[false, false, false, false, false, false, false, false, false] (by kernel_rfl) rfl rfl KK.out (fun hHeld => ?_)
    refine with_tabW stepSteps.tab6 stepSteps.bits6 (fun HT_ HW_ => ?_)
    have hbb : Below w18.heap.size w18 w18.drew := below_drew (Below.refl _ _)
    replace HB := Aside0.mk (below_then HB.out HB.out.size hbb)
    replace KK := Aside0.mk (cells_below hbb KK.out)
    replace HR := Aside0.mk (Kd.C_below HR.out hbb)
    replace Hx := Aside0.mk (Kd.C_below Hx.out hbb)
    replace Hy := Aside0.mk (Kd.C_below Hy.out hbb)
    clear hbb
    generalize w18.drew = w19 at HB KK HR Hx Hy hHeld ⊢
    refine take_ (i := 0) (N := some 54) (v := ?_) (a' := ?_) #[true, false, false, false, false, false, false, false, false] rfl rfl (take_ofW HT_.out HW_.out (by kernel_rfl)) (fun _ _ _ h => h) (Or.inl ⟨by rfl, ?_⟩) hHeld ?_ ?_
    rotate_left
    ·
     rintro w' ⟨s0, s1, s2, s3⟩
     go_simp
     with_reducible rfl
    rotate_left
    ·
     simp only [Act.put, List.setIfInBounds_toArray, List.set_cons_zero, List.set_cons_succ, i64_w, i32_w]
     rfl
    refine take_ (i := 2) (N := some 56) (v := ?_) (a' := ?_) #[true, false, true, false, false, false, false, false, false] rfl rfl (take_ofW HT_.out HW_.out (by kernel_rfl)) (fun _ _ _ h => h) (Or.inl ⟨by rfl, ?_⟩) hHeld ?_ ?_
    rotate_left
    ·
     rintro w' ⟨s0, s1, s2, s3⟩
     go_simp
     with_reducible rfl
    rotate_left
    ·
     simp only [Act.put, List.setIfInBounds_toArray, List.set_cons_zero, List.set_cons_succ, i64_w, i32_w]
     rfl
    refine one_ (i := 1) (N := some 55) #[true, true, true, false, false, false, false, false, false] rfl rfl (one_of HT_.out (by kernel_rfl)) (by decide) (fun K hK => ?_)
    refine goes_ Try.func20 (by kernel_rfl) rfl #[.agg #[.int .i64 a, .slice A l.length c]] (by rfl) rfl rfl (by (try simp only [List.map_toArray, List.map_cons, List.map_nil]); first | done | rfl) ?_
    refine (given_calls' a A c l _ HR.out hc).mono ?_
    rintro e w20 ⟨Ag, cg, rfl, hcg, hCg, hb⟩
    refine ⟨_, rfl, ?_⟩
    have hbb := hb; clear hb
    replace HB := Aside0.mk (below_then HB.out HB.out.size hbb)
    replace KK := Aside0.mk (cells_below hbb KK.out)
    replace HR := Aside0.mk (Kd.C_below HR.out hbb)
    replace Hx := Aside0.mk (Kd.C_below Hx.out hbb)
    replace Hy := Aside0.mk (Kd.C_below Hy.out hbb)
    clear hbb
    have Hg := Aside0.mk hCg; clear hCg
    refine hK.out _ _ KK.out (fun hHeld => ?_)
    clear hK K
    refine norm_ (a' := ?_) ?_ ?_
    rotate_left
    ·
     show Act.put _ (some 55) _ = _
     simp only [Act.put, List.setIfInBounds_toArray, List.set_cons_zero, List.set_cons_succ, i64_w, i32_w]
     rfl
    refine one_ (i := 3) (N := some 57) #[true, true, true, true, false, false, false, false, false] rfl rfl (one_of HT_.out (by kernel_rfl)) (by decide) (fun K hK => ?_)
    refine goes_ Try.func30 (by kernel_rfl) rfl #[.agg #[.int .i64 a, .slice Ag l.length cg], .agg #[.int .i64 lo, .int .i64 hi]] (by rfl) rfl rfl (by (try simp only [List.map_toArray, List.map_cons, List.map_nil]); first | done | rfl) ?_
    refine (pianolaref01_Greatest.calls 20000 a Ag cg l lo hi q m _ Hg.out hcg HS2.out).mono ?_
    rintro e w21 ⟨rfl, hb⟩
    refine ⟨_, rfl, ?_⟩
    have hbb := hb; clear hb
    clear Hg
    replace HB := Aside0.mk (below_then HB.out HB.out.size hbb)
    replace KK := Aside0.mk (cells_below hbb KK.out)
    replace HR := Aside0.mk (Kd.C_below HR.out hbb)
    replace Hx := Aside0.mk (Kd.C_below Hx.out hbb)
    replace Hy := Aside0.mk (Kd.C_below Hy.out hbb)
    clear hbb
    clear hcg
    refine hK.out _ _ KK.out (fun hHeld => ?_)
    clear hK K
    refine norm_ (a' := ?_) ?_ ?_
    rotate_left
    ·
     show Act.put _ (some 57) _ = _
     simp only [Act.put, List.setIfInBounds_toArray, List.set_cons_zero, List.set_cons_succ, i64_w, i32_w]
     rfl
    refine pure_ (i := 4) (N := some 53) (v := ?_) (a' := ?_) #[true, true, true, true, true, false, false, false, false] rfl rfl (any_of HT_.out (by kernel_rfl)) (fun _ _ _ h => h) (Or.inl ⟨by rfl, ?_⟩) ?_ ?_
    rotate_left
    ·
     intro w'
     go_simp
     with_reducible rfl
    rotate_left
    ·
     simp only [Act.put, List.setIfInBounds_toArray, List.set_cons_zero, List.set_cons_succ, i64_w, i32_w]
     rfl
    refine pure_ (i := 5) (N := some 58) (v := ?_) (a' := ?_) #[true, true, true, true, true, true, false, false, false] rfl rfl (any_of HT_.out (by kernel_rfl)) (fun _ _ _ h => h) (Or.inl ⟨by rfl, ?_⟩) ?_ ?_
    rotate_left
    ·
     intro w'
     go_simp
     with_reducible rfl
    rotate_left
    ·
     simp only [Act.put, List.setIfInBounds_toArray, List.set_cons_zero, List.set_cons_succ, i64_w, i32_w]
     rfl
    refine pure_ (i := 6) (N := some 59) (v := ?_) (a' := ?_) #[true, true, true, true, true, true, true, false, false] rfl rfl (any_of HT_.out (by kernel_rfl)) (fun _ _ _ h => h) (Or.inl ⟨by rfl, ?_⟩) ?_ ?_
    rotate_left
    ·
     intro w'
     go_simp
     with_reducible rfl
    rotate_left
    ·
     simp only [Act.put, List.setIfInBounds_toArray, List.set_cons_zero, List.set_cons_succ, i64_w, i32_w]
     rfl
    refine pure_ (i := 7) (N := some 11) (v := ?_) (a' := ?_) #[true, true, true, true, true, true, true, true, false] rfl rfl (any_of HT_.out (by kernel_rfl)) (fun _ _ _ h => h) (Or.inl ⟨by rfl, ?_⟩) ?_ ?_
    rotate_left
    ·
     intro w'
     go_simp
     with_reducible rfl
    rotate_left
    ·
     simp only [Act.put, List.setIfInBounds_toArray, List.set_cons_zero, List.set_cons_succ, i64_w, i32_w]
     rfl
    refine pure_ (i := 8) (N := some 12) (v := ?_) (a' := ?_) #[true, true, true, true, true, true, true, true, true] rfl rfl (any_of HT_.out (by kernel_rfl)) (fun _ _ _ h => h) (Or.inl ⟨by rfl, ?_⟩) ?_ ?_
    rotate_left
    ·
     intro w'
     go_simp
     with_reducible rfl
    rotate_left
    ·
     simp only [Act.put, List.setIfInBounds_toArray, List.set_cons_zero, List.set_cons_succ, i64_w, i32_w]
     rfl
    refine done_ (done_of HT_.out (by kernel_rfl)) ?_
    try clear hHeld
    obtain ⟨hk0, hk1, hk2, hk3⟩ := KK.out
    go_wp2_with fail
    try clear hk0 hk1 hk2 hk3
    refine (pianolalaw01_numbers.calls 4000 Ax cx r Ay cy r true _ Hx.out hcx Hy.out hcy HN.out).mono ?_
    rintro e w22 ⟨rfl, hd⟩
    have hbb := hd.below; clear hd
    replace HB := Aside0.mk (below_then HB.out HB.out.size hbb)
    clear Hx
    clear Hy
    replace KK := Aside0.mk (cells_below hbb KK.out)
    replace HR := Aside0.mk (Kd.C_below HR.out hbb)
    clear hbb
    go_wp2_with fail
    refine (works_calls _).mono ?_
    rintro e wz ⟨rfl, hb⟩
    have HB' := Aside0.mk (below_then HB.out HB.out.size hb); clear HB hb; have HB := HB'; clear HB'
    go_wp2
    go_ret
    exact ⟨rfl, HB.out⟩
  ·
   have c1b : decide (1 ≤ lo) = false := decide_eq_false c1
   clear c1
   obtain ⟨r, n, hO, hO2, hOl⟩ := steps_same a l lo hi 20000 (by omega)
   obtain ⟨q, m, hS, hS2⟩ := greatest_same a l lo hi 20000 (by omega)
   have HO := Aside0.mk hO; have HO2 := Aside0.mk hO2; have HS := Aside0.mk hS; have HS2 := Aside0.mk hS2; have HN := Aside0.mk (numbers_f r (by omega) 4000 (by omega)); clear hO hO2 hOl hS hS2
   go_enter Try.func5, Try.ntmps5
   go_wp2_with fail
   refine (pianolalaw01_large.calls 1000 a A c l false _ (Kd.C_alloc (Kd.C_alloc HR.out _) _) hc HL.out).mono ?_
   rintro e w23 ⟨rfl, hb⟩
   have K0 := Aside0.mk (pw_cell_below hb (a := ⟨w.heap.size, 0, none⟩) (v := .int .i64 a) ((blk_cell (blk_alloc (blk_new w _) _) 0).trans rfl))
   have K1 := Aside0.mk (pw_cell_below hb (a := ⟨w.heap.size, 1, none⟩) (v := .slice A l.length c) ((blk_cell (blk_alloc (blk_new w _) _) 1).trans rfl))
   have K2 := Aside0.mk (pw_cell_below hb (a := ⟨w.heap.size + 1, 0, none⟩) (v := .int .i64 lo) ((blk_cell (blk_new2 w _ _) 0).trans rfl))
   have K3 := Aside0.mk (pw_cell_below hb (a := ⟨w.heap.size + 1, 1, none⟩) (v := .int .i64 hi) ((blk_cell (blk_new2 w _ _) 1).trans rfl))
   have KK := Aside0.mk (And.intro K0.out (And.intro K1.out (And.intro K2.out K3.out))); clear K0 K1 K2 K3
   have HR' := Aside0.mk (Kd.C_below (Kd.C_alloc (Kd.C_alloc HR.out _) _) hb); clear HR; have HR := HR'; clear HR'
   have HB' := Aside0.mk (below_then (below_alloc (below_alloc (Below.refl w.heap.size w) _) _) (by simp only [World.size_alloc]; omega) hb); clear HB; have HB := HB'; clear HB' hb
   obtain ⟨hk0, hk1, hk2, hk3⟩ := KK.out
   go_wp2_with fail
   try clear hk0 hk1 hk2 hk3
   refine (step_Steps.calls a A c l lo hi r n _ HR.out hc HO.out).mono ?_
   rintro e w24 ⟨v, rfl, hR, hb⟩
   have hbb := hb; clear hb
   replace HB := Aside0.mk (below_then HB.out HB.out.size hbb)
   replace KK := Aside0.mk (cells_below hbb KK.out)
   replace HR := Aside0.mk (Kd.C_below HR.out hbb)
   clear hbb
   obtain ⟨Ax, cx, rfl, hcx, hCx⟩ := Kd.R_reads hR
   clear hR
   have Hx := Aside0.mk hCx; clear hCx
   obtain ⟨hk0, hk1, hk2, hk3⟩ := KK.out
   go_wp2_with fail
   try clear hk0 hk1 hk2 hk3
   refine start_ (n := 9) (S := fun w' => w'.cell? ⟨w.heap.size, 0, none⟩ = some (.int .i64 a) ∧ w'.cell? ⟨w.heap.size, 1, none⟩ = some (.slice A l.length c) ∧ w'.cell? ⟨w.heap.size + 1, 0, none⟩ = some (.int .i64 lo) ∧ w'.cell? ⟨w.heap.size + 1, 1, none⟩ = some (.int .i64 hi)) (ds := []) #[false, false, false, false, false, false, false, false, false] (by kernel_rfl) rfl rfl KK.out (fun hHeld => ?_)
   refine with_tabW stepSteps.tab4 stepSteps.bits4 (fun HT_ HW_ => ?_)
   have hbb : Below w24.heap.size w24 w24.drew := below_drew (Below.refl _ _)
   replace HB := Aside0.mk (below_then HB.out HB.out.size hbb)
   replace KK := Aside0.mk (cells_below hbb KK.out)
   replace HR := Aside0.mk (Kd.C_below HR.out hbb)
   replace Hx := Aside0.mk (Kd.C_below Hx.out hbb)
   clear hbb
   generalize w24.drew = w25 at HB KK HR Hx hHeld ⊢
   refine take_ (i := 0) (N := some 41) (v := ?_) (a' := ?_) #[true, false, false, false, false, false, false, false, false] rfl rfl (take_ofW HT_.out HW_.out (by kernel_rfl)) (fun _ _ _ h => h) (Or.inl ⟨by rfl, ?_⟩) hHeld ?_ ?_
   rotate_left
   ·
    rintro w' ⟨s0, s1, s2, s3⟩
    go_simp
    with_reducible rfl
   rotate_left
   ·
    simp only [Act.put, List.setIfInBounds_toArray, List.set_cons_zero, List.set_cons_succ, i64_w, i32_w]
    rfl
   refine take_ (i := 2) (N := some 43) (v := ?_) (a' := ?_) #[true, false, true, false, false, false, false, false, false] rfl rfl (take_ofW HT_.out HW_.out (by kernel_rfl)) (fun _ _ _ h => h) (Or.inl ⟨by rfl, ?_⟩) hHeld ?_ ?_
   rotate_left
   ·
    rintro w' ⟨s0, s1, s2, s3⟩
    go_simp
    with_reducible rfl
   rotate_left
   ·
    simp only [Act.put, List.setIfInBounds_toArray, List.set_cons_zero, List.set_cons_succ, i64_w, i32_w]
    rfl
   refine one_ (i := 1) (N := some 42) #[true, true, true, false, false, false, false, false, false] rfl rfl (one_of HT_.out (by kernel_rfl)) (by decide) (fun K hK => ?_)
   refine goes_ Try.func20 (by kernel_rfl) rfl #[.agg #[.int .i64 a, .slice A l.length c]] (by rfl) rfl rfl (by (try simp only [List.map_toArray, List.map_cons, List.map_nil]); first | done | rfl) ?_
   refine (given_calls' a A c l _ HR.out hc).mono ?_
   rintro e w26 ⟨Ag, cg, rfl, hcg, hCg, hb⟩
   refine ⟨_, rfl, ?_⟩
   have hbb := hb; clear hb
   replace HB := Aside0.mk (below_then HB.out HB.out.size hbb)
   replace KK := Aside0.mk (cells_below hbb KK.out)
   replace HR := Aside0.mk (Kd.C_below HR.out hbb)
   replace Hx := Aside0.mk (Kd.C_below Hx.out hbb)
   clear hbb
   have Hg := Aside0.mk hCg; clear hCg
   refine hK.out _ _ KK.out (fun hHeld => ?_)
   clear hK K
   refine norm_ (a' := ?_) ?_ ?_
   rotate_left
   ·
    show Act.put _ (some 42) _ = _
    simp only [Act.put, List.setIfInBounds_toArray, List.set_cons_zero, List.set_cons_succ, i64_w, i32_w]
    rfl
   refine one_ (i := 3) (N := some 44) #[true, true, true, true, false, false, false, false, false] rfl rfl (one_of HT_.out (by kernel_rfl)) (by decide) (fun K hK => ?_)
   refine goes_ Try.func28 (by kernel_rfl) rfl #[.agg #[.int .i64 a, .slice Ag l.length cg], .agg #[.int .i64 lo, .int .i64 hi]] (by rfl) rfl rfl (by (try simp only [List.map_toArray, List.map_cons, List.map_nil]); first | done | rfl) ?_
   refine (pianolaref01_Steps.calls 20000 a Ag cg l lo hi r n _ Hg.out hcg HO2.out).mono ?_
   rintro e w27 ⟨v, rfl, hR, hb⟩
   refine ⟨_, rfl, ?_⟩
   have hbb := hb; clear hb
   clear Hg
   replace HB := Aside0.mk (below_then HB.out HB.out.size hbb)
   replace KK := Aside0.mk (cells_below hbb KK.out)
   replace HR := Aside0.mk (Kd.C_below HR.out hbb)
   replace Hx := Aside0.mk (Kd.C_below Hx.out hbb)
   clear hbb
   clear hcg
   obtain ⟨Ay, cy, rfl, hcy, hCy⟩ := Kd.R_reads hR
   clear hR
   have Hy := Aside0.mk hCy; clear hCy
   refine hK.out _ _ KK.out (fun hHeld => ?_)
   clear hK K
   refine norm_ (a' := ?_) ?_ ?_
   rotate_left
   ·
    show Act.put _ (some 44) _ = _
    simp only [Act.put, List.setIfInBounds_toArray, List.set_cons_zero, List.set_cons_succ, i64_w, i32_w]
    rfl
   refine pure_ (i := 4) (N := some 40) (v := ?_) (a' := ?_) #[true, true, true, true, true, false, false, false, false] rfl rfl (any_of HT_.out (by kernel_rfl)) (fun _ _ _ h => h) (Or.inl ⟨by rfl, ?_⟩) ?_ ?_
   rotate_left
   ·
    intro w'
    go_simp
    with_reducible rfl
   rotate_left
   ·
    simp only [Act.put, List.setIfInBounds_toArray, List.set_cons_zero, List.set_cons_succ, i64_w, i32_w]
    rfl
   refine pure_ (i := 5) (N := some 45) (v := ?_) (a' := ?_) #[true, true, true, true, true, true, false, false, false] rfl rfl (any_of HT_.out (by kernel_rfl)) (fun _ _ _ h => h) (Or.inl ⟨by rfl, ?_⟩) ?_ ?_
   rotate_left
   ·
    intro w'
    go_simp
    with_reducible rfl
   rotate_left
   ·
    simp only [Act.put, List.setIfInBounds_toArray, List.set_cons_zero, List.set_cons_succ, i64_w, i32_w]
    rfl
   refine pure_ (i := 6) (N := some 46) (v := ?_) (a' := ?_) #[true, true, true, true, true, true, true, false, false] rfl rfl (any_of HT_.out (by kernel_rfl)) (fun _ _ _ h => h) (Or.inl ⟨by rfl, ?_⟩) ?_ ?_
   rotate_left
   ·
    intro w'
    go_simp
    with_reducible rfl
   rotate_left
   ·
    simp only [Act.put, List.setIfInBounds_toArray, List.set_cons_zero, List.set_cons_succ, i64_w, i32_w]
    rfl
   refine pure_ (i := 7) (N := some 7) (v := ?_) (a' := ?_) #[true, true, true, true, true, true, true, true, false] rfl rfl (any_of HT_.out (by kernel_rfl)) (fun _ _ _ h => h) (Or.inl ⟨by rfl, ?_⟩) ?_ ?_
   rotate_left
   ·
    intro w'
    go_simp
    with_reducible rfl
   rotate_left
   ·
    simp only [Act.put, List.setIfInBounds_toArray, List.set_cons_zero, List.set_cons_succ, i64_w, i32_w]
    rfl
   refine pure_ (i := 8) (N := some 8) (v := ?_) (a' := ?_) #[true, true, true, true, true, true, true, true, true] rfl rfl (any_of HT_.out (by kernel_rfl)) (fun _ _ _ h => h) (Or.inl ⟨by rfl, ?_⟩) ?_ ?_
   rotate_left
   ·
    intro w'
    go_simp
    with_reducible rfl
   rotate_left
   ·
    simp only [Act.put, List.setIfInBounds_toArray, List.set_cons_zero, List.set_cons_succ, i64_w, i32_w]
    rfl
   refine done_ (done_of HT_.out (by kernel_rfl)) ?_
   try clear hHeld
   obtain ⟨hk0, hk1, hk2, hk3⟩ := KK.out
   go_wp2_with fail
   try clear hk0 hk1 hk2 hk3
   refine (step_Greatest.calls a A c l lo hi q m _ HR.out hc HS.out).mono ?_
   rintro e w28 ⟨rfl, hb⟩
   have hbb := hb; clear hb
   replace HB := Aside0.mk (below_then HB.out HB.out.size hbb)
   replace KK := Aside0.mk (cells_below hbb KK.out)
   replace HR := Aside0.mk (Kd.C_below HR.out hbb)
   replace Hx := Aside0.mk (Kd.C_below Hx.out hbb)
   replace Hy := Aside0.mk (Kd.C_below Hy.out hbb)
   clear hbb
   obtain ⟨hk0, hk1, hk2, hk3⟩ := KK.out
   go_wp2_with fail
   try clear hk0 hk1 hk2 hk3
   refine start_ (n := 9) (S := fun w' => w'.cell? ⟨w.heap.size, 0, none⟩ = some (.int .i64 a) ∧ w'.cell? ⟨w.heap.size, 1, none⟩ = some (.slice A l.length c) ∧ w'.cell? ⟨w.heap.size + 1, 0, none⟩ = some (.int .i64 lo) ∧ w'.cell? ⟨w.heap.size + 1, 1, none⟩ = some (.int .i64 hi)) (ds := []) #[false, false, false, false, false, false, false, false, false] (by kernel_rfl) rfl rfl KK.out (fun hHeld => ?_)
   refine with_tabW stepSteps.tab6 stepSteps.bits6 (fun HT_ HW_ => ?_)
   have hbb : Below w28.heap.size w28 w28.drew := below_drew (Below.refl _ _)
   replace HB := Aside0.mk (below_then HB.out HB.out.size hbb)
   replace KK := Aside0.mk (cells_below hbb KK.out)
   replace HR := Aside0.mk (Kd.C_below HR.out hbb)
   replace Hx := Aside0.mk (Kd.C_below Hx.out hbb)
   replace Hy := Aside0.mk (Kd.C_below Hy.out hbb)
   clear hbb
   generalize w28.drew = w29 at HB KK HR Hx Hy hHeld ⊢
   refine take_ (i := 0) (N := some 54) (v := ?_) (a' := ?_) #[true, false, false, false, false, false, false, false, false] rfl rfl (take_ofW HT_.out HW_.out (by kernel_rfl)) (fun _ _ _ h => h) (Or.inl ⟨by rfl, ?_⟩) hHeld ?_ ?_
   rotate_left
   ·
    rintro w' ⟨s0, s1, s2, s3⟩
    go_simp
    with_reducible rfl
   rotate_left
   ·
    simp only [Act.put, List.setIfInBounds_toArray, List.set_cons_zero, List.set_cons_succ, i64_w, i32_w]
    rfl
   refine take_ (i := 2) (N := some 56) (v := ?_) (a' := ?_) #[true, false, true, false, false, false, false, false, false] rfl rfl (take_ofW HT_.out HW_.out (by kernel_rfl)) (fun _ _ _ h => h) (Or.inl ⟨by rfl, ?_⟩) hHeld ?_ ?_
   rotate_left
   ·
    rintro w' ⟨s0, s1, s2, s3⟩
    go_simp
    with_reducible rfl
   rotate_left
   ·
    simp only [Act.put, List.setIfInBounds_toArray, List.set_cons_zero, List.set_cons_succ, i64_w, i32_w]
    rfl
   refine one_ (i := 1) (N := some 55) #[true, true, true, false, false, false, false, false, false] rfl rfl (one_of HT_.out (by kernel_rfl)) (by decide) (fun K hK => ?_)
   refine goes_ Try.func20 (by kernel_rfl) rfl #[.agg #[.int .i64 a, .slice A l.length c]] (by rfl) rfl rfl (by (try simp only [List.map_toArray, List.map_cons, List.map_nil]); first | done | rfl) ?_
   refine (given_calls' a A c l _ HR.out hc).mono ?_
   rintro e w30 ⟨Ag, cg, rfl, hcg, hCg, hb⟩
   refine ⟨_, rfl, ?_⟩
   have hbb := hb; clear hb
   replace HB := Aside0.mk (below_then HB.out HB.out.size hbb)
   replace KK := Aside0.mk (cells_below hbb KK.out)
   replace HR := Aside0.mk (Kd.C_below HR.out hbb)
   replace Hx := Aside0.mk (Kd.C_below Hx.out hbb)
   replace Hy := Aside0.mk (Kd.C_below Hy.out hbb)
   clear hbb
   have Hg := Aside0.mk hCg; clear hCg
   refine hK.out _ _ KK.out (fun hHeld => ?_)
   clear hK K
   refine norm_ (a' := ?_) ?_ ?_
   rotate_left
   ·
    show Act.put _ (some 55) _ = _
    simp only [Act.put, List.setIfInBounds_toArray, List.set_cons_zero, List.set_cons_succ, i64_w, i32_w]
    rfl
   refine one_ (i := 3) (N := some 57) #[true, true, true, true, false, false, false, false, false] rfl rfl (one_of HT_.out (by kernel_rfl)) (by decide) (fun K hK => ?_)
   refine goes_ Try.func30 (by kernel_rfl) rfl #[.agg #[.int .i64 a, .slice Ag l.length cg], .agg #[.int .i64 lo, .int .i64 hi]] (by rfl) rfl rfl (by (try simp only [List.map_toArray, List.map_cons, List.map_nil]); first | done | rfl) ?_
   refine (pianolaref01_Greatest.calls 20000 a Ag cg l lo hi q m _ Hg.out hcg HS2.out).mono ?_
   rintro e w31 ⟨rfl, hb⟩
   refine ⟨_, rfl, ?_⟩
   have hbb := hb; clear hb
   clear Hg
   replace HB := Aside0.mk (below_then HB.out HB.out.size hbb)
   replace KK := Aside0.mk (cells_below hbb KK.out)
   replace HR := Aside0.mk (Kd.C_below HR.out hbb)
   replace Hx := Aside0.mk (Kd.C_below Hx.out hbb)
   replace Hy := Aside0.mk (Kd.C_below Hy.out hbb)
   clear hbb
   clear hcg
   refine hK.out _ _ KK.out (fun hHeld => ?_)
   clear hK K
   refine norm_ (a' := ?_) ?_ ?_
   rotate_left
   ·
    show Act.put _ (some 57) _ = _
    simp only [Act.put, List.setIfInBounds_toArray, List.set_cons_zero, List.set_cons_succ, i64_w, i32_w]
    rfl
   refine pure_ (i := 4) (N := some 53) (v := ?_) (a' := ?_) #[true, true, true, true, true, false, false, false, false] rfl rfl (any_of HT_.out (by kernel_rfl)) (fun _ _ _ h => h) (Or.inl ⟨by rfl, ?_⟩) ?_ ?_
   rotate_left
   ·
    intro w'
    go_simp
    with_reducible rfl
   rotate_left
   ·
    simp only [Act.put, List.setIfInBounds_toArray, List.set_cons_zero, List.set_cons_succ, i64_w, i32_w]
    rfl
   refine pure_ (i := 5) (N := some 58) (v := ?_) (a' := ?_) #[true, true, true, true, true, true, false, false, false] rfl rfl (any_of HT_.out (by kernel_rfl)) (fun _ _ _ h => h) (Or.inl ⟨by rfl, ?_⟩) ?_ ?_
   rotate_left
   ·
    intro w'
    go_simp
    with_reducible rfl
   rotate_left
   ·
    simp only [Act.put, List.setIfInBounds_toArray, List.set_cons_zero, List.set_cons_succ, i64_w, i32_w]
    rfl
   refine pure_ (i := 6) (N := some 59) (v := ?_) (a' := ?_) #[true, true, true, true, true, true, true, false, false] rfl rfl (any_of HT_.out (by kernel_rfl)) (fun _ _ _ h => h) (Or.inl ⟨by rfl, ?_⟩) ?_ ?_
   rotate_left
   ·
    intro w'
    go_simp
    with_reducible rfl
   rotate_left
   ·
    simp only [Act.put, List.setIfInBounds_toArray, List.set_cons_zero, List.set_cons_succ, i64_w, i32_w]
    rfl
   refine pure_ (i := 7) (N := some 11) (v := ?_) (a' := ?_) #[true, true, true, true, true, true, true, true, false] rfl rfl (any_of HT_.out (by kernel_rfl)) (fun _ _ _ h => h) (Or.inl ⟨by rfl, ?_⟩) ?_ ?_
   rotate_left
   ·
    intro w'
    go_simp
    with_reducible rfl
   rotate_left
   ·
    simp only [Act.put, List.setIfInBounds_toArray, List.set_cons_zero, List.set_cons_succ, i64_w, i32_w]
    rfl
   refine pure_ (i := 8) (N := some 12) (v := ?_) (a' := ?_) #[true, true, true, true, true, true, true, true, true] rfl rfl (any_of HT_.out (by kernel_rfl)) (fun _ _ _ h => h) (Or.inl ⟨by rfl, ?_⟩) ?_ ?_
   rotate_left
   ·
    intro w'
    go_simp
    with_reducible rfl
   rotate_left
   ·
    simp only [Act.put, List.setIfInBounds_toArray, List.set_cons_zero, List.set_cons_succ, i64_w, i32_w]
    rfl
   refine done_ (done_of HT_.out (by kernel_rfl)) ?_
   try clear hHeld
   obtain ⟨hk0, hk1, hk2, hk3⟩ := KK.out
   go_wp2_with fail
   try clear hk0 hk1 hk2 hk3
   refine (pianolalaw01_numbers.calls 4000 Ax cx r Ay cy r true _ Hx.out hcx Hy.out hcy HN.out).mono ?_
   rintro e w32 ⟨rfl, hd⟩
   have hbb := hd.below; clear hd
   replace HB := Aside0.mk (below_then HB.out HB.out.size hbb)
   clear Hx
   clear Hy
   replace KK := Aside0.mk (cells_below hbb KK.out)
   replace HR := Aside0.mk (Kd.C_below HR.out hbb)
   clear hbb
   go_wp2_with fail
   refine (works_calls _).mono ?_
   rintro e wz ⟨rfl, hb⟩
   have HB' := Aside0.mk (below_then HB.out HB.out.size hb); clear HB hb; have HB := HB'; clear HB'
   go_wp2
   go_ret
   exact ⟨rfl, HB.out⟩

end Go.Proofs.Ytnbcdbkhpdpjgaa.H
