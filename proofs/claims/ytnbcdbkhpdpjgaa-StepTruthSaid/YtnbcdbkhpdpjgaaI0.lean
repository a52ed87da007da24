/- The walk of the law StepTruth: it returns true. Printed by gen_truth.py of this session. -/
import Derived.Test.YtnbcdbkhpdpjgaaHU
import Derived.Test.YtnbcdbkhpdpjgaaHZ
import Derived.Test.YtnbcdbkhpdpjgaaHB
namespace Go.Proofs.Ytnbcdbkhpdpjgaa.H
open Go.RowKit Go.Proofs.YtnbcdbkhpdpjgaaW.PrintWords Go.Proofs.YtnbcdbkhpdpjgaaW.PrintLast Go.Proofs.YtnbcdbkhpdpjgaaW.PrintMore
open Go.Proofs.Ytnbcdbkhpdpjgaa.QA
set_option linter.unusedVariables false
set_option linter.unusedSimpArgs false

def truth_T9 : Bool × List (List Nat × List Nat) := (true, [([], []), ([], []), ([], []), ([], []), ([], []), ([3, 4], [3, 4]), ([5], [5]), ([0, 1, 2, 6], [0, 1, 2, 6]), ([7], [7]), ([8], [8]), ([8], [8]), ([9, 7, 0, 1, 2, 3, 4, 5, 6, 7, 8, 9], [9]), ([10, 11, 0, 1, 2, 3, 4, 5, 6, 7, 8, 9, 10, 11], [10])])
def truth_B9 : List Nat := [0, 0, 0, 0, 0, 24, 56, 127, 255, 511, 511, 1023, 4095]
theorem truth_tab9 : rtab .any (opsOf Try.f7 9) = truth_T9 := by kernel_rfl
theorem truth_bits9 : waitsOk truth_T9.2 truth_B9 = true := by kernel_rfl

set_option maxHeartbeats 8000000 in
set_option maxRecDepth 100000 in
theorem stepTruth_calls (a0 a1 a2 a3 a4 : Int) (A : Option Addr) (c : Nat) (l : List S92) (b1 b2 : Int) (w : World) (hr : Kd.C k92 w A l.length l) (hc : l.length ≤ c) (hok : mdOk a0 a1 a2 a3 a4 l) (h1 : isByte b1) (h2 : isByte b2) :
  Calls Try.prog 7 #[.agg #[.int .u8 a0, .int .u8 a1, .int .u8 a2, .int .u8 a3, .int .u8 a4, .slice A l.length c], .int .u8 b1, .int .u8 b2] w fun e w' => e = .returned (.bool true) ∧ Below w.heap.size w w' := by
 have hu24 := Try.underlying24
 have hu59 := Try.underlying59
 have hu46 := Try.underlying46
 obtain ⟨off, cs, s, os, rs, hmd, hM⟩ := made_true a0 a1 a2 a3 a4 l hok
 unfold isByte at h1 h2
 obtain ⟨mm, hmm, hm2⟩ : ∃ mm : Nat, b2 = (mm : Int) ∧ mm < 256 := ⟨b2.toNat, by omega, by omega⟩
 subst hmm
 have HM2 := Aside0.mk hm2
 have HM := Aside0.mk hM
 have HMD := Aside0.mk hmd
 have HR := Aside0.mk hr
 have HY := Aside0.mk (And.intro h1 h2)
 have hlo := hM.lo
 have hlr := hM.lr
 have HL := Aside0.mk (And.intro hM.hc (And.intro hlo hlr))
 clear hmd hr hM hok h1 h2 hlo hlr hm2
 go_enter Try.func7, Try.ntmps7
 go_wp2_with fail
 refine (pianolalaw01_Master_made.calls a0 a1 a2 a3 a4 A c l off cs s os rs _ (Kd.C_alloc HR.out _) hc HMD.out).mono ?_
 rintro e w1 ⟨v1, v2, v3, rfl, hS, hO, hR, hb⟩
 obtain ⟨gx, cx, rfl, _, _, _⟩ := Kd.S_form hS (by have := HL.out; omega)
 obtain ⟨go, co, rfl, _, _, _⟩ := Kd.R_form hO (by have := HL.out; omega)
 obtain ⟨gr, cr, rfl, _, _, _⟩ := Kd.S_form hR (by have := HL.out; omega)
 have HB := Aside0.mk (below_then (below_alloc (Below.refl w.heap.size w) _) (by simp) hb)
 obtain ⟨_, hcx, hC1⟩ := Kd.S_reads' hS
 obtain ⟨_, hco, hC2⟩ := Kd.R_reads' hO
 obtain ⟨_, hcr, hC3⟩ := Kd.S_reads' hR
 have HC := Aside0.mk hC1
 have HOS := Aside0.mk hC2
 have HRS := Aside0.mk hC3
 clear hS hO hR hb hC1 hC2 hC3
 go_upto_region 2 with fail
 have BX := Aside0.mk (blk_new w1 (.cells #[.int .i64 off, .slice (some ⟨gx, 0, none⟩) cs.length cx] 24))
 have hbb : Below w1.heap.size w1 (w1.alloc (.cells #[.int .i64 off, .slice (some ⟨gx, 0, none⟩) cs.length cx] 24)) := below_alloc (Below.refl _ _) _
 replace HB := Aside0.mk (below_then HB.out HB.out.size hbb)
 replace HC := Aside0.mk (Kd.C_below HC.out hbb)
 replace HOS := Aside0.mk (Kd.C_below HOS.out hbb)
 replace HRS := Aside0.mk (Kd.C_below HRS.out hbb)
 clear hbb
 generalize w1.alloc (.cells #[.int .i64 off, .slice (some ⟨gx, 0, none⟩) cs.length cx] 24) = w2 at BX HB HC HOS HRS ⊢
 generalize w1.heap.size = g7 at BX ⊢
 have k0 : w2.cell? ⟨g7, 0, none⟩ = some (.int .i64 off) := (blk_cell BX.out 0).trans rfl
 have k1 : w2.cell? ⟨g7, 1, none⟩ = some (.slice (some ⟨gx, 0, none⟩) cs.length cx) := (blk_cell BX.out 1).trans rfl
 go_wp2_with fail
 refine (step_Steps.calls off (some ⟨gx, 0, none⟩) cx cs 1 60 (stepsFrom off cs 60 1) 0 _ HC.out hcx (steps_of HM.out.valid 1 60 (by omega) (by omega) (by omega))).mono ?_
 rintro e w3 ⟨v, rfl, hR, hb⟩
 obtain ⟨AL, cL, rfl, hcL, hCL⟩ := Kd.R_reads hR
 replace HC := Aside0.mk (Kd.C_below HC.out hb)
 replace HOS := Aside0.mk (Kd.C_below HOS.out hb)
 replace HRS := Aside0.mk (Kd.C_below HRS.out hb)
 replace HB := Aside0.mk (below_then HB.out HB.out.size hb)
 replace BX := Aside0.mk (blk_below BX.out hb)
 have HH := Aside0.mk (show pianolalaw01_has.f 100 (stepsFrom off cs 60 1) s = some true by have hl := steps_len off cs 60 1; rw [has_f (stepsFrom off cs 60 1) s (by omega) 100 (by omega), decide_eq_true (made_step HM.out)])
 have HCL := Aside0.mk hCL
 clear hR hCL hb k0 k1
 go_wp2_with fail
 refine (pianolalaw01_has.calls 100 AL cL (stepsFrom off cs 60 1) s true _ HCL.out hcL HH.out).mono ?_
 rintro e w4 ⟨rfl, hd⟩
 have hb := hd.below
 replace HC := Aside0.mk (Kd.C_below HC.out hb)
 replace HOS := Aside0.mk (Kd.C_below HOS.out hb)
 replace HRS := Aside0.mk (Kd.C_below HRS.out hb)
 replace HB := Aside0.mk (below_then HB.out HB.out.size hb)
 replace BX := Aside0.mk (blk_below BX.out hb)
 clear hd hb HH HCL hcL
 have k1 : w4.cell? ⟨g7, 1, none⟩ = some (.slice (some ⟨gx, 0, none⟩) cs.length cx) := (blk_cell BX.out 1).trans rfl
 go_wp2
 go_loopg [49] cs.length (fun gg s49 wr => ∃ j : Nat, s49 = .int .i64 j ∧ Aside0 (j ≤ cs.length ∧ cs.length - j ≤ gg) ∧ Aside0 (Below w4.heap.size w4 wr))
 case atStart => exact ⟨0, rfl, ⟨by omega, by omega⟩, ⟨Below.refl _ _⟩⟩
 case round =>
  clear k1
  obtain ⟨j, rfl, HJ, HW⟩ := hrel
  by_cases hj : j < cs.length
  ·
   have j1 : decide ((j : Int) < (cs.length : Int)) = true := decide_eq_true (by omega)
   have HJJ := Aside0.mk hj
   have k0 : wr.cell? ⟨g7, 0, none⟩ = some (.int .i64 off) := (blk_cell (blk_below BX.out HW.out) 0).trans rfl
   have k1 : wr.cell? ⟨g7, 1, none⟩ = some (.slice (some ⟨gx, 0, none⟩) cs.length cx) := (blk_cell (blk_below BX.out HW.out) 1).trans rfl
   obtain ⟨O, hO⟩ : ∃ O, O = offsOf off s (rd_L1 cs (j : Int)) := ⟨_, rfl⟩
   obtain ⟨RR, hRR⟩ : ∃ RR, RR = (rd_L1 cs (j : Int)).map (rowAt off s (rd os (j : Int))) := ⟨_, rfl⟩
   have HOF := Aside0.mk (made_offsets HM.out hj)
   have HRW := Aside0.mk (made_rows HM.out hj)
   have HNR := Aside0.mk (fun k (hk : k < (rd_L1 rs (j : Int)).length) => made_near HM.out hj hk)
   have HHA := Aside0.mk (show pianolalaw01_has.f 2000 O (rd os (j : Int)) = some true by
    have hl := offsOf_length off s (rd_L1 cs (j : Int)) (by have := HM.out.hs; omega) (by have := HM.out.hs; omega)
    rw [hO, has_f _ _ (by omega) 2000 (by omega), decide_eq_true (made_off HM.out hj)])
   rw [← hO] at HOF
   rw [← hRR] at HRW HNR
   have hrl : RR.length = (rd_L1 rs (j : Int)).length := by rw [hRR, List.length_map]; exact (made_len0 HM.out hj).2.2.1.symm
   have HRL := Aside0.mk hrl
   have HLJ := Aside0.mk (made_len0 HM.out hj)
   clear hO hRR hrl
   go_wp2_with fail
   refine (step_Offsets.calls off (some ⟨gx, 0, none⟩) cx cs (j : Int) s O 0 _ (Kd.C_below HC.out HW.out) hcx HOF.out).mono ?_
   rintro e wA ⟨v, rfl, hR, hb⟩
   obtain ⟨AO, cO, rfl, hcO, hCO⟩ := Kd.R_reads hR
   have HCO := Aside0.mk hCO
   have hW := below_then HW.out HW.out.size hb
   replace HW := Aside0.mk hW
   clear hR hCO hb hW k0 k1 j1
   go_upto_region 9 with fail
   clear hj
   obtain ⟨ao, eo, hxo⟩ := Kd.at_int HOS.out (j : Int) (by omega) (by have := HL.out; have := HJJ.out; omega)
   cases eo
   rw [add_plain, Int.toNat_natCast] at hxo
   have HXO := Aside0.mk hxo
   clear hxo
   have q0 : (0 ≤ (j : Int)) = True := eq_true (by omega)
   have q1 : ((j : Int) < (os.length : Int)) = True := eq_true (by have := HL.out; have := HJJ.out; omega)
   replace HCO := Aside0.mk (Kd.C_drew HCO.out)
   refine start_ (n := 13) (S := fun w' => w'.cell? ⟨g7, 0, none⟩ = some (.int .i64 off) ∧ w'.cell? ⟨g7, 1, none⟩ = some (.slice (some ⟨gx, 0, none⟩) cs.length cx) ∧ w'.cell? ⟨go, j, none⟩ = some (.int .i64 (rd os (j : Int)))) (ds := []) #[false, false, false, false, false, false, false, false, false, false, false, false, false] (by kernel_rfl) rfl rfl ⟨(blk_cell (blk_below BX.out HW.out) 0).trans rfl, (blk_cell (blk_below BX.out HW.out) 1).trans rfl, (HW.out.cell (World.block_lt_of_cell? w4 _ HXO.out)).trans HXO.out⟩ (fun hHeld => ?_)
   refine with_tabW truth_tab9 truth_bits9 (fun HT_ HW_ => ?_)
   replace HW := Aside0.mk (below_drew1 HW.out)
   generalize wA.drew = wB at HW HCO hHeld ⊢
   refine take_ (i := 0) (N := some 60) (v := ?_) (a' := ?_) #[true, false, false, false, false, false, false, false, false, false, false, false, false] rfl rfl (take_ofW HT_.out HW_.out (by kernel_rfl)) (fun _ _ _ h => h) (Or.inl ⟨by rfl, ?_⟩) hHeld ?_ ?_
   rotate_left
   · rintro w' ⟨s0, s1, s2⟩
     go_simp
     with_reducible rfl
   rotate_left
   · simp only [Act.put, List.setIfInBounds_toArray, List.set_cons_zero, List.set_cons_succ, i64_w, i32_w]
     rfl
   refine pure_ (i := 1) (N := some 61) (v := ?_) (a' := ?_) #[true, true, false, false, false, false, false, false, false, false, false, false, false] rfl rfl (any_of HT_.out (by kernel_rfl)) (fun _ _ _ h => h) (Or.inl ⟨by rfl, ?_⟩) ?_ ?_
   rotate_left
   · intro w'
     go_simp
     with_reducible rfl
   rotate_left
   · simp only [Act.put, List.setIfInBounds_toArray, List.set_cons_zero, List.set_cons_succ, i64_w, i32_w]
     rfl
   refine pure_ (i := 2) (N := some 62) (v := ?_) (a' := ?_) #[true, true, true, false, false, false, false, false, false, false, false, false, false] rfl rfl (any_of HT_.out (by kernel_rfl)) (fun _ _ _ h => h) (Or.inl ⟨by rfl, ?_⟩) ?_ ?_
   rotate_left
   · intro w'
     go_simp
     with_reducible rfl
   rotate_left
   · simp only [Act.put, List.setIfInBounds_toArray, List.set_cons_zero, List.set_cons_succ, i64_w, i32_w]
     rfl
   refine pure_ (i := 3) (N := some 63) (v := ?_) (a' := ?_) #[true, true, true, true, false, false, false, false, false, false, false, false, false] rfl rfl (any_of HT_.out (by kernel_rfl)) (fun _ _ _ h => h) (Or.inl ⟨by rfl, ?_⟩) ?_ ?_
   rotate_left
   · intro w'
     go_simp
     with_reducible rfl
   rotate_left
   · simp only [Act.put, List.setIfInBounds_toArray, List.set_cons_zero, List.set_cons_succ, i64_w, i32_w]
     rfl
   refine pure_ (i := 4) (N := some 64) (v := ?_) (a' := ?_) #[true, true, true, true, true, false, false, false, false, false, false, false, false] rfl rfl (any_of HT_.out (by kernel_rfl)) (fun _ _ _ h => h) (Or.inl ⟨by rfl, ?_⟩) ?_ ?_
   rotate_left
   · intro w'
     go_simp
     with_reducible rfl
   rotate_left
   · simp only [Act.put, List.setIfInBounds_toArray, List.set_cons_zero, List.set_cons_succ, i64_w, i32_w]
     rfl
   refine pure_ (i := 5) (N := some 65) (v := ?_) (a' := ?_) #[true, true, true, true, true, true, false, false, false, false, false, false, false] rfl rfl (any_of HT_.out (by kernel_rfl)) (fun _ _ _ h => h) (Or.inl ⟨by rfl, ?_⟩) ?_ ?_
   rotate_left
   · intro w'
     go_simp
     with_reducible rfl
   rotate_left
   · simp only [Act.put, List.setIfInBounds_toArray, List.set_cons_zero, List.set_cons_succ, i64_w, i32_w]
     rfl
   refine take_ (i := 6) (N := some 66) (v := ?_) (a' := ?_) #[true, true, true, true, true, true, true, false, false, false, false, false, false] rfl rfl (take_ofW HT_.out HW_.out (by kernel_rfl)) (fun _ _ _ h => h) (Or.inl ⟨by rfl, ?_⟩) hHeld ?_ ?_
   rotate_left
   · rintro w' ⟨s0, s1, s2⟩
     go_simp
     with_reducible rfl
   rotate_left
   · simp only [Act.put, List.setIfInBounds_toArray, List.set_cons_zero, List.set_cons_succ, i64_w, i32_w]
     rfl
   refine one_ (i := 7) (N := some 67) #[true, true, true, true, true, true, true, true, false, false, false, false, false] rfl rfl (one_of HT_.out (by kernel_rfl)) (by decide) (fun K hK => ?_)
   refine goes_ Try.func23 (by kernel_rfl) rfl #[.agg #[.int .i64 off, .slice (some ⟨gx, 0, none⟩) cs.length cx], .int .i64 (j : Int), .int .i64 s, .int .i64 (rd os (j : Int))] (by rfl) rfl rfl (by (try simp only [List.map_toArray, List.map_cons, List.map_nil]); first | done | rfl) ?_
   refine (step_Rows.calls 20 off (some ⟨gx, 0, none⟩) cx cs (j : Int) s (rd os (j : Int)) RR 0 _ (Kd.C_below HC.out HW.out) hcx HRW.out).mono ?_
   rintro e wC ⟨v, rfl, hR, hb⟩
   refine ⟨_, rfl, ?_⟩
   obtain ⟨AQ, cQ, rfl, hcQ, hCQ⟩ := Kd.R_reads hR
   have HCQ := Aside0.mk hCQ
   replace HCO := Aside0.mk (Kd.C_below HCO.out hb)
   have hW := below_then HW.out HW.out.size hb
   replace HW := Aside0.mk hW
   clear hR hCQ hb hW
   refine hK.out _ _ ⟨(blk_cell (blk_below BX.out HW.out) 0).trans rfl, (blk_cell (blk_below BX.out HW.out) 1).trans rfl, (HW.out.cell (World.block_lt_of_cell? w4 _ HXO.out)).trans HXO.out⟩ (fun hHeld => ?_)
   clear hK K
   refine norm_ (a' := ?_) ?_ ?_
   rotate_left
   · show Act.put _ (some 67) _ = _
     simp only [Act.put, List.setIfInBounds_toArray, List.set_cons_zero, List.set_cons_succ, i64_w, i32_w]
     rfl
   refine pure_ (i := 8) (N := some 59) (v := ?_) (a' := ?_) #[true, true, true, true, true, true, true, true, true, false, false, false, false] rfl rfl (any_of HT_.out (by kernel_rfl)) (fun _ _ _ h => h) (Or.inl ⟨by rfl, ?_⟩) ?_ ?_
   rotate_left
   · intro w'
     go_simp
     with_reducible rfl
   rotate_left
   · simp only [Act.put, List.setIfInBounds_toArray, List.set_cons_zero, List.set_cons_succ, i64_w, i32_w]
     rfl
   refine pure_ (i := 9) (N := some 68) (v := ?_) (a' := ?_) #[true, true, true, true, true, true, true, true, true, true, false, false, false] rfl rfl (any_of HT_.out (by kernel_rfl)) (fun _ _ _ h => h) (Or.inl ⟨by rfl, ?_⟩) ?_ ?_
   rotate_left
   · intro w'
     go_simp
     with_reducible rfl
   rotate_left
   · simp only [Act.put, List.setIfInBounds_toArray, List.set_cons_zero, List.set_cons_succ, i64_w, i32_w]
     rfl
   refine pure_ (i := 10) (N := some 69) (v := ?_) (a' := ?_) #[true, true, true, true, true, true, true, true, true, true, true, false, false] rfl rfl (any_of HT_.out (by kernel_rfl)) (fun _ _ _ h => h) (Or.inl ⟨by rfl, ?_⟩) ?_ ?_
   rotate_left
   · intro w'
     go_simp
     with_reducible rfl
   rotate_left
   · simp only [Act.put, List.setIfInBounds_toArray, List.set_cons_zero, List.set_cons_succ, i64_w, i32_w]
     rfl
   refine pure_ (i := 11) (N := some 16) (v := ?_) (a' := ?_) #[true, true, true, true, true, true, true, true, true, true, true, true, false] rfl rfl (any_of HT_.out (by kernel_rfl)) (fun _ _ _ h => h) (Or.inl ⟨by rfl, ?_⟩) ?_ ?_
   rotate_left
   · intro w'
     go_simp
     with_reducible rfl
   rotate_left
   · simp only [Act.put, List.setIfInBounds_toArray, List.set_cons_zero, List.set_cons_succ, i64_w, i32_w]
     rfl
   refine pure_ (i := 12) (N := some 17) (v := ?_) (a' := ?_) #[true, true, true, true, true, true, true, true, true, true, true, true, true] rfl rfl (any_of HT_.out (by kernel_rfl)) (fun _ _ _ h => h) (Or.inl ⟨by rfl, ?_⟩) ?_ ?_
   rotate_left
   · intro w'
     go_simp
     with_reducible rfl
   rotate_left
   · simp only [Act.put, List.setIfInBounds_toArray, List.set_cons_zero, List.set_cons_succ, i64_w, i32_w]
     rfl
   refine done_ (done_of HT_.out (by kernel_rfl)) ?_
   clear HT_ HW_ hHeld
   have k0 : wC.cell? ⟨g7, 0, none⟩ = some (.int .i64 off) := (blk_cell (blk_below BX.out HW.out) 0).trans rfl
   have k1 : wC.cell? ⟨g7, 1, none⟩ = some (.slice (some ⟨gx, 0, none⟩) cs.length cx) := (blk_cell (blk_below BX.out HW.out) 1).trans rfl
   clear q0 q1
   go_wp2_with fail
   refine (step_Clash.calls off (some ⟨gx, 0, none⟩) cx cs (j : Int) s [] 8 _ (Kd.C_below HC.out HW.out) hcx (made_clash HM.out HJJ.out)).mono ?_
   rintro e wD ⟨v, rfl, hR, hb⟩
   obtain ⟨AK, cK, rfl, _, _⟩ := Kd.R_reads hR
   replace HCO := Aside0.mk (Kd.C_below HCO.out hb)
   replace HCQ := Aside0.mk (Kd.C_below HCQ.out hb)
   have hW := below_then HW.out HW.out.size hb
   replace HW := Aside0.mk hW
   clear hR hb hW k0 k1
   have k2 : wD.cell? ⟨go, j, none⟩ = some (.int .i64 (rd os (j : Int))) := (HW.out.cell (World.block_lt_of_cell? w4 _ HXO.out)).trans HXO.out
   have n1 : j < os.length := by have := HL.out; have := HJJ.out; omega
   go_wp2_with fail
   refine (pianolalaw01_has.calls 2000 AO cO O (rd os (j : Int)) true _ HCO.out hcO HHA.out).mono ?_
   rintro e wE ⟨rfl, hd⟩
   have hb := hd.below
   replace HCQ := Aside0.mk (Kd.C_below HCQ.out hb)
   have hW := below_then HW.out HW.out.size hb
   replace HW := Aside0.mk hW
   clear hd hb hW k2 n1 HCO hcO
   obtain ⟨ar, Aj, cj, er, hxr, hcj, hCj⟩ := at_L1 (Kd.C_below HRS.out HW.out) (j : Int) (by omega) (by have := HL.out; have := HJJ.out; omega)
   cases er
   rw [add_plain, Int.toNat_natCast] at hxr
   have HCJ := Aside0.mk hCj
   have n1 : j < rs.length := by have := HL.out; have := HJJ.out; omega
   obtain ⟨rj, hrj⟩ : ∃ rj, rj = rd_L1 rs (j : Int) := ⟨_, rfl⟩
   rw [← hrj] at hxr hcj HCJ HNR HRL HLJ
   have n2 : ((RR.length : Int) != (rj.length : Int)) = false := by rw [HRL.out]; simp
   clear hrj hCj
   go_wp2
   clear hxr n1 n2
   go_loopg [111] rj.length (fun g2 s111 wi => ∃ k : Nat, s111 = .int .i64 k ∧ Aside0 (k ≤ rj.length ∧ rj.length - k ≤ g2) ∧ Aside0 (Below wE.heap.size wE wi))
   case atStart => exact ⟨0, rfl, ⟨by omega, by omega⟩, ⟨Below.refl _ _⟩⟩
   case round =>
    obtain ⟨k, rfl, HK, HI⟩ := hrel
    by_cases hk : k < rj.length
    · have u1 : decide ((k : Int) < (rj.length : Int)) = true := decide_eq_true (by omega)
      have HKK := Aside0.mk hk
      obtain ⟨aj, ej, hxj⟩ := Kd.at_int HCJ.out (k : Int) (by omega) (by omega)
      subst ej
      obtain ⟨aq, eq, hq0, hq1⟩ := at_T46 HCQ.out (k : Int) (by omega) (by have := HRL.out; omega)
      subst eq
      rw [Int.toNat_natCast] at hxj hq0 hq1
      obtain ⟨_, hn1, hn2⟩ := HNR.out k hk
      have u2 : decide (rd rj (k : Int) < (rd_T46 RR (k : Int)).f0) = false := decide_eq_false (by omega)
      have u3 : decide ((rd_T46 RR (k : Int)).f1 < rd rj (k : Int)) = false := decide_eq_false (by omega)
      generalize (rd_T46 RR (k : Int)).f0 = lo at hq0 u2
      generalize (rd_T46 RR (k : Int)).f1 = hi at hq1 u3
      generalize rd rj (k : Int) = nn at hxj u2 u3
      replace hxj := (HI.out.cell (World.block_lt_of_cell? wE _ hxj)).trans hxj
      replace hq0 := (HI.out.cell (World.block_lt_of_cell? wE _ hq0)).trans hq0
      replace hq1 := (HI.out.cell (World.block_lt_of_cell? wE _ hq1)).trans hq1
      have n3 : k < RR.length := by have := HRL.out; omega
      clear hn1 hn2
      go_wp2
      go_roundg (rj.length - (k + 1))
      case measure => have := HK.out; have := HKK.out; omega
      case rel => exact ⟨k + 1, by rw [w64' _ (by omega) (by have := HLJ.out; have := HKK.out; omega)]; rfl, ⟨by have := HKK.out; omega, Nat.le_refl _⟩, HI⟩
    · have u1 : decide ((k : Int) < (rj.length : Int)) = false := decide_eq_false (by omega)
      have hW := below_then HW.out HW.out.size HI.out
      replace HW := Aside0.mk hW
      clear hW
      go_wp2
      go_roundg (cs.length - (j + 1))
      case measure => have := HJ.out; have := HJJ.out; omega
      case rel => exact ⟨j + 1, by rw [w64' _ (by omega) (by have := HL.out; have := HJJ.out; omega)]; rfl, ⟨by have := HJJ.out; omega, Nat.le_refl _⟩, HW⟩
  ·
   have j1 : decide ((j : Int) < (cs.length : Int)) = false := decide_eq_false (by omega)
   have k1 : wr.cell? ⟨g7, 1, none⟩ = some (.slice (some ⟨gx, 0, none⟩) cs.length cx) := (blk_cell (blk_below BX.out HW.out) 1).trans rfl
   have t4 : ¬ (cs.length : Int) = 0 := by have := HL.out; omega
   go_upto_region 21 with fail
   obtain ⟨ci, hci, hcl⟩ : ∃ ci : Nat, (wrap64 b1).tmod (cs.length : Int) = (ci : Int) ∧ ci < cs.length := by
    have h6 := HY.out.1
    have h7 := HL.out
    rw [w64' b1 (by omega) (by omega), Int.tmod_eq_emod_of_nonneg (by omega)]
    have h8 := Int.emod_nonneg b1 (b := (cs.length : Int)) (by omega)
    have h9 := Int.emod_lt_of_pos b1 (b := (cs.length : Int)) (by omega)
    exact ⟨(b1 % (cs.length : Int)).toNat, by omega, by omega⟩
   rw [hci]
   clear hci t4 j1
   obtain ⟨ac, Ac, cc, ec, hxc, hcc, hCc⟩ := at_L1 (Kd.C_below HC.out HW.out) (ci : Int) (by omega) (by omega)
   cases ec
   rw [add_plain, Int.toNat_natCast] at hxc
   have HLC := Aside0.mk (made_len0 HM.out hcl)
   have HV := Aside0.mk (fun m hne => made_verify HM.out hcl m hne)
   obtain ⟨lc, hlc⟩ : ∃ lc, lc = rd_L1 cs (ci : Int) := ⟨_, rfl⟩
   rw [← hlc] at hxc HLC HV
   have HCLL := Aside0.mk hcl
   clear hlc hCc hcc
   generalize wr = wO at HW hxc k1 ⊢
   have n1 : ci < cs.length := HCLL.out
   have hxc0 := hxc
   go_wp2
   clear hxc k1 n1
   go_loopg [23, 146] lc.length (fun gg v23 s146 wi => ∃ k : Nat, s146 = .int .i64 k ∧ Aside0 (k ≤ lc.length ∧ lc.length - k ≤ gg) ∧ Aside0 (Kd.R dN 3 wi wO.heap.size (fun _ => True) v23 (maskNums k mm)) ∧ Aside0 (Below wO.heap.size wO wi))
   case atStart => exact ⟨0, rfl, ⟨by omega, by omega⟩, ⟨Kd.R_nil _ _ _ _ _⟩, ⟨Below.refl _ _⟩⟩
   case round =>
    clear hxc0
    obtain ⟨k, rfl, HK, HSM, HI⟩ := hrel
    by_cases hk : k < lc.length
    · have u1 : decide ((k : Int) < (lc.length : Int)) = true := decide_eq_true (by omega)
      have HKK := Aside0.mk hk
      have hb8 := bit8 mm HM2.out k (by have := HLC.out; omega)
      have HB8 := Aside0.mk hb8
      have hs8 := mask_succ k mm
      have HS8 := Aside0.mk hs8
      clear hb8 hs8
      cases hbit : mm.testBit k with
      | true =>
        have u2 : (Go.bits .and .u8 ((mm : Int) / 2 ^ min k 8) 1 == 1) = true := HB8.out.trans hbit
        have HBT := Aside0.mk hbit
        clear hbit
        have hml := mask_len k mm
        have HML := Aside0.mk hml
        clear hml
        go_wp2_with ((with_reducible refine gate_builtin (b := .append) (xs := #[.tmp 154, .tmp 156]) rfl ?_); at_builtin; refine Kd.R_append dN (w0 := wO) wO.heap.size rfl (.tmp 154) (.tmp 156) 34 3 (.int .i64 0) 8 rfl Try.underlying34 info3 rfl (by decide) (by omega) u23 (maskNums k mm) (k : Int) [.int .i64 (k : Int)] (fun _ => True) (fun _ => False) rfl rfl ?aP (fun _ hk => hk.elim) ?aF ?aO ?aB ?aS ?aL ?_; (case aP => exact rfl); (case aB => exact HI.out); (case aF => exact fun _ _ => trivial); (case aO => exact Kd.R_mono HSM.out (fun _ _ => by first | trivial | exact ⟨trivial, id⟩)); (case aS => exact HI.out.size); (case aL => have h1 := HML.out; have h2 := HKK.out; have h3 := HLC.out; omega); intro v5 w5 ho_ hb_ hg_ hat_; have HSN := Aside0.mk ho_; have HIN := Aside0.mk hb_; clear ho_ hb_ hg_ hat_)
        go_roundg (lc.length - (k + 1))
        case measure => have := HK.out; have := HKK.out; omega
        case rel => exact ⟨k + 1, by rw [w64' _ (by omega) (by have := HLC.out; have := HKK.out; omega)]; rfl, ⟨by have := HKK.out; omega, Nat.le_refl _⟩, ⟨by rw [HS8.out, if_pos HBT.out]; exact HSN.out⟩, HIN⟩
      | false =>
        have u2 : (Go.bits .and .u8 ((mm : Int) / 2 ^ min k 8) 1 == 1) = false := HB8.out.trans hbit
        have HBT := Aside0.mk hbit
        clear hbit
        go_wp2
        go_roundg (lc.length - (k + 1))
        case measure => have := HK.out; have := HKK.out; omega
        case rel => exact ⟨k + 1, by rw [w64' _ (by omega) (by have := HLC.out; have := HKK.out; omega)]; rfl, ⟨by have := HKK.out; omega, Nat.le_refl _⟩, ⟨by rw [HS8.out, if_neg (by rw [HBT.out]; simp), List.append_nil]; exact HSM.out⟩, HI⟩
    · have u1 : decide ((k : Int) < (lc.length : Int)) = false := decide_eq_false (by omega)
      have hke : k = lc.length := by have := HK.out; omega
      subst hke
      have HWI := Aside0.mk (below_then HW.out HW.out.size HI.out)
      obtain ⟨AM, cM, rfl, hcM, hCM⟩ := Kd.R_reads HSM.out
      have HCM := Aside0.mk hCM
      clear hCM
      by_cases hz : maskNums lc.length mm = []
      · have z1 : (((maskNums lc.length mm).length : Int) == 0) = true := by rw [hz]; rfl
        clear hz
        go_wp2_with fail
        refine (works_calls _).mono ?_
        rintro e w7 ⟨rfl, hb⟩
        replace HWI := Aside0.mk (below_then HWI.out HWI.out.size hb)
        clear hb
        go_wp2
        go_ret
        exact ⟨rfl, below_then HB.out HB.out.size HWI.out⟩
      · have z1 : (((maskNums lc.length mm).length : Int) == 0) = false := by
         rw [beq_eq_false_iff_ne]
         intro e0
         exact hz (List.length_eq_zero_iff.1 (by omega))
        have HVV := Aside0.mk (HV.out mm hz)
        have k0 : wr.cell? ⟨g7, 0, none⟩ = some (.int .i64 off) := (blk_cell (blk_below BX.out HWI.out) 0).trans rfl
        have k1 : wr.cell? ⟨g7, 1, none⟩ = some (.slice (some ⟨gx, 0, none⟩) cs.length cx) := (blk_cell (blk_below BX.out HWI.out) 1).trans rfl
        clear hz
        go_wp2_with fail
        refine (step_Verify.calls 3000 off (some ⟨gx, 0, none⟩) cx cs (ci : Int) s AM cM (maskNums lc.length mm) 14 _ (Kd.C_below HC.out HWI.out) hcx HCM.out hcM HVV.out).mono ?_
        rintro e w6 ⟨rfl, hb⟩
        replace HWI := Aside0.mk (below_then HWI.out HWI.out.size hb)
        clear hb k0 k1
        go_wp2_with fail
        refine (works_calls _).mono ?_
        rintro e w7 ⟨rfl, hb⟩
        replace HWI := Aside0.mk (below_then HWI.out HWI.out.size hb)
        clear hb
        go_wp2
        go_ret
        exact ⟨rfl, below_then HB.out HB.out.size HWI.out⟩

end Go.Proofs.Ytnbcdbkhpdpjgaa.H
