/- The walk of the law StepMore: it returns true. Printed by gen_more.py of this session. -/
import Derived.Test.YtnbcdbkhpdpjgaaHU
import Derived.Test.YtnbcdbkhpdpjgaaHV
import Derived.Test.YtnbcdbkhpdpjgaaJ2
import Derived.Test.YtnbcdbkhpdpjgaaHB
namespace Go.Proofs.Ytnbcdbkhpdpjgaa.H
open Go.RowKit Go.Proofs.YtnbcdbkhpdpjgaaW.PrintWords Go.Proofs.YtnbcdbkhpdpjgaaW.PrintLast Go.Proofs.YtnbcdbkhpdpjgaaW.PrintMore
open Go.Proofs.Ytnbcdbkhpdpjgaa.QA
set_option linter.unusedVariables false
set_option linter.unusedSimpArgs false

def more_T6 : Bool × List (List Nat × List Nat) := (true, [([], []), ([], []), ([], []), ([], []), ([], []), ([], []), ([3, 0, 0, 3, 4, 5], [0, 3]), ([4, 1, 6, 0, 1, 3, 4, 5, 6], [1, 4]), ([5, 2, 7, 0, 1, 2, 3, 4, 5, 6, 7], [2, 5])])
def more_B6 : List Nat := [0, 0, 0, 0, 0, 0, 57, 123, 255]
theorem more_tab6 : rtab .any (opsOf Try.f11 6) = more_T6 := by kernel_rfl
theorem more_bits6 : waitsOk more_T6.2 more_B6 = true := by kernel_rfl
def more_T9 : Bool × List (List Nat × List Nat) := (true, [([], []), ([0], [0]), ([], []), ([], []), ([3], [3]), ([4], [4]), ([5], [5]), ([2, 6], [2, 6]), ([], []), ([8], [8]), ([9], [9]), ([7, 10, 7], [7, 10]), ([1, 0, 1, 2, 3, 4, 5, 6, 7, 8, 9, 10, 11], [1]), ([12, 11, 11, 0, 1, 2, 3, 4, 5, 6, 7, 8, 9, 10, 11], [11, 12])])
def more_B9 : List Nat := [0, 1, 0, 0, 8, 24, 56, 124, 0, 256, 768, 2044, 4095, 8191]
theorem more_tab9 : rtab .any (opsOf Try.f11 9) = more_T9 := by kernel_rfl
theorem more_bits9 : waitsOk more_T9.2 more_B9 = true := by kernel_rfl
def more_T10 : Bool × List (List Nat × List Nat) := (true, [([], []), ([0], [0]), ([], []), ([2], [2]), ([], []), ([4], [4]), ([5], [5]), ([3, 6], [3, 6]), ([1, 7], [1, 7]), ([0, 1, 2, 3, 4, 5, 6, 7, 8], []), ([9, 8, 0, 1, 2, 3, 4, 5, 6, 7, 8], [8, 9])])
def more_B10 : List Nat := [0, 1, 0, 4, 0, 16, 48, 124, 255, 511, 1023]
theorem more_tab10 : rtab .any (opsOf Try.f11 10) = more_T10 := by kernel_rfl
theorem more_bits10 : waitsOk more_T10.2 more_B10 = true := by kernel_rfl

set_option maxHeartbeats 16000000 in
set_option maxRecDepth 100000 in
theorem stepMore_calls (a0 a1 a2 a3 a4 : Int) (A : Option Addr) (c : Nat) (l : List S92) (b1 b2 : Int) (w : World) (hr : Kd.C k92 w A l.length l) (hc : l.length ≤ c) (hok : mdOk a0 a1 a2 a3 a4 l) (h1 : 0 ≤ b1 ∧ b1 ≤ 65535) (h2 : isByte b2) :
  Calls Try.prog 11 #[.agg #[.int .u8 a0, .int .u8 a1, .int .u8 a2, .int .u8 a3, .int .u8 a4, .slice A l.length c], .int .u16 b1, .int .u8 b2] w fun e w' => e = .returned (.bool true) ∧ Below w.heap.size w w' := by
 have hu24 := Try.underlying24
 have hu59 := Try.underlying59
 have hu46 := Try.underlying46
 obtain ⟨off, cs, s0, os, rs, hmd, hM⟩ := made_true a0 a1 a2 a3 a4 l hok
 unfold isByte at h2
 have HM := Aside0.mk hM
 have HMD := Aside0.mk hmd
 have HR := Aside0.mk hr
 have HY := Aside0.mk (And.intro h1 h2)
 have HL := Aside0.mk hM.hc
 have HV := Aside0.mk hM.valid
 have HO := Aside0.mk hM.ho
 clear hmd hr hM hok h1 h2
 go_enter Try.func11, Try.ntmps11
 go_wp2_with fail
 refine (pianolalaw01_Master_made.calls a0 a1 a2 a3 a4 A c l off cs s0 os rs _ (Kd.C_alloc HR.out _) hc HMD.out).mono ?_
 rintro e w1 ⟨v1, v2, v3, rfl, hS, hO, hR, hb⟩
 obtain ⟨gx, cx, rfl, _, _, _⟩ := Kd.S_form hS (by have := HL.out; omega)
 have HB := Aside0.mk (below_then (below_alloc (Below.refl w.heap.size w) _) (by simp) hb)
 have HC := Aside0.mk (Kd.S_reads' hS).2.2
 have hcx := (Kd.S_reads' hS).2.1
 clear hS hO hR hb
 go_upto_region 3 with fail
 have BX := Aside0.mk (blk_alloc (blk_new w1 (.cells #[.int .i64 off, .slice (some ⟨gx, 0, none⟩) cs.length cx] 24)) (.cells #[.int .i64 1, .int .i64 50] 46))
 have BS := Aside0.mk (blk_two w1 (.cells #[.int .i64 off, .slice (some ⟨gx, 0, none⟩) cs.length cx] 24) (.cells #[.int .i64 1, .int .i64 50] 46))
 have hbb : Below w1.heap.size w1 ((w1.alloc (.cells #[.int .i64 off, .slice (some ⟨gx, 0, none⟩) cs.length cx] 24)).alloc (.cells #[.int .i64 1, .int .i64 50] 46)) := below_alloc (below_alloc (Below.refl _ _) _) _
 replace HC := Aside0.mk (Kd.C_below HC.out hbb)
 replace HB := Aside0.mk (below_then HB.out HB.out.size hbb)
 clear hbb
 generalize (w1.alloc (.cells #[.int .i64 off, .slice (some ⟨gx, 0, none⟩) cs.length cx] 24)).alloc (.cells #[.int .i64 1, .int .i64 50] 46) = w2 at BX BS HC HB ⊢
 generalize w1.heap.size = g7 at BX BS ⊢
 have k0 : w2.cell? ⟨g7, 0, none⟩ = some (.int .i64 off) := (blk_cell BX.out 0).trans rfl
 have k1 : w2.cell? ⟨g7, 1, none⟩ = some (.slice (some ⟨gx, 0, none⟩) cs.length cx) := (blk_cell BX.out 1).trans rfl
 have k2 : w2.cell? ⟨g7 + 1, 0, none⟩ = some (.int .i64 1) := (blk_cell BS.out 0).trans rfl
 have k3 : w2.cell? ⟨g7 + 1, 1, none⟩ = some (.int .i64 50) := (blk_cell BS.out 1).trans rfl
 obtain ⟨L, hL⟩ : ∃ L, L = stepsFrom off cs 50 1 := ⟨_, rfl⟩
 have HST := Aside0.mk (show step_Steps.f off cs 1 50 = some (L, 0) by rw [hL]; exact steps_of HV.out 1 50 (by omega) (by omega) (by omega))
 have HLL := Aside0.mk hL
 have HLN := Aside0.mk (show L.length ≤ 50 by rw [hL]; exact steps_len _ _ 50 1)
 clear hL
 go_wp2_with fail
 refine (step_Steps.calls off (some ⟨gx, 0, none⟩) cx cs 1 50 L 0 _ HC.out hcx HST.out).mono ?_
 rintro e w4 ⟨v, rfl, hR, hb⟩
 obtain ⟨AL, cL, rfl, hcL, hCL⟩ := Kd.R_reads hR
 have HCL := Aside0.mk hCL
 replace HC := Aside0.mk (Kd.C_below HC.out hb)
 replace HB := Aside0.mk (below_then HB.out HB.out.size hb)
 replace BX := Aside0.mk (blk_below BX.out hb)
 replace BS := Aside0.mk (blk_below BS.out hb)
 clear hR hCL hb k0 k1 k2 k3
 go_upto_region 6 with fail

 replace HB := Aside0.mk (below_drew1 HB.out)
 replace BX := Aside0.mk (show w4.drew.heap[g7]? = _ from BX.out)
 replace BS := Aside0.mk (show w4.drew.heap[g7 + 1]? = _ from BS.out)
 replace HC := Aside0.mk (Kd.C_drew HC.out)
 replace HCL := Aside0.mk (Kd.C_drew HCL.out)
 refine start_ (n := 9) (S := fun w' => w'.cell? ⟨g7, 0, none⟩ = some (.int .i64 off) ∧ w'.cell? ⟨g7, 1, none⟩ = some (.slice (some ⟨gx, 0, none⟩) cs.length cx)) (ds := []) #[false, false, false, false, false, false, false, false, false] (by kernel_rfl) rfl rfl ⟨(blk_cell BX.out 0).trans rfl, (blk_cell BX.out 1).trans rfl⟩ (fun hHeld => ?_)
 refine with_tabW more_tab6 more_bits6 (fun HT_ HW_ => ?_)
 generalize w4.drew = wB at HB BX BS HC HCL hHeld ⊢
 refine take_ (i := 0) (N := some 39) (v := ?_) (a' := ?_) #[true, false, false, false, false, false, false, false, false] rfl rfl (take_ofW HT_.out HW_.out (by kernel_rfl)) (fun _ _ _ h => h) (Or.inl ⟨by rfl, ?_⟩) hHeld ?_ ?_
 rotate_left
 · rintro w' ⟨s0, s1⟩
   go_simp
   with_reducible rfl
 rotate_left
 · simp only [Act.put, List.setIfInBounds_toArray, List.set_cons_zero, List.set_cons_succ, i64_w, i32_w]
   rfl
 refine take_ (i := 1) (N := some 40) (v := ?_) (a' := ?_) #[true, true, false, false, false, false, false, false, false] rfl rfl (take_ofW HT_.out HW_.out (by kernel_rfl)) (fun _ _ _ h => h) (Or.inl ⟨by rfl, ?_⟩) hHeld ?_ ?_
 rotate_left
 · rintro w' ⟨s0, s1⟩
   go_simp
   with_reducible rfl
 rotate_left
 · simp only [Act.put, List.setIfInBounds_toArray, List.set_cons_zero, List.set_cons_succ, i64_w, i32_w]
   rfl
 refine take_ (i := 2) (N := some 41) (v := ?_) (a' := ?_) #[true, true, true, false, false, false, false, false, false] rfl rfl (take_ofW HT_.out HW_.out (by kernel_rfl)) (fun _ _ _ h => h) (Or.inl ⟨by rfl, ?_⟩) hHeld ?_ ?_
 rotate_left
 · rintro w' ⟨s0, s1⟩
   go_simp
   with_reducible rfl
 rotate_left
 · simp only [Act.put, List.setIfInBounds_toArray, List.set_cons_zero, List.set_cons_succ, i64_w, i32_w]
   rfl
 have HF := Aside0.mk (Kd.C_F (Kd.heap_slice 3 (Kd.heap_int .i64)) HC.out : Kd.F dL wB (fun k => k < wB.heap.size) _ _ _)
 have hx7 := blk_lt BX.out
 have hx8 := blk_lt BS.out
 refine more6 _ wB off (some ⟨gx, 0, none⟩) cs.length cx rfl rfl rfl rfl (fun W' hb => ⟨(blk_cell (blk_below BX.out hb) 0).trans rfl, (blk_cell (blk_below BX.out hb) 1).trans rfl⟩) ?_
 intro ga gb gc wC hb hge hne bA bB bC
 clear HT_ HW_ hHeld
 have HNE := Aside0.mk (And.intro hne (And.intro hge (And.intro hx7 hx8)))
 have HLT := Aside0.mk (And.intro (blk_lt bA) (And.intro (blk_lt bB) (blk_lt bC)))
 have HBB := Aside0.mk hb
 have BA := Aside0.mk bA
 have BB := Aside0.mk bB
 have BC := Aside0.mk bC
 clear hb hge hne bA bB bC hx7 hx8
 simp only [putAll, Act.put, List.setIfInBounds_toArray, List.set_cons_zero, List.set_cons_succ]
 go_upto_region 7 with fail
 have k1 : wC.cell? ⟨g7, 1, none⟩ = some (.slice (some ⟨gx, 0, none⟩) cs.length cx) := (blk_cell (blk_below BX.out HBB.out) 1).trans rfl
 have hg7 : g7 < wC.heap.size := blk_lt (blk_below BX.out HBB.out)
 have hb0 : 0 ≤ b1 := HY.out.1.1
 have hb1 : b1 ≤ 65535 := HY.out.1.2
 go_upto_region 8 with (first
   | ((with_reducible refine gate_builtin (b := .append) (xs := #[.tmp 42, .tmp 44]) rfl ?_); at_builtin; refine Kd.N_append_rows dL (w0 := wC) wC.heap.size rfl (.tmp 42) (.tmp 44) 22 34 (.slice none 0 0) 24 rfl Try.underlying22 info34 rfl (by decide) (by omega) (.slice (some ⟨wC.heap.size, 0, none⟩) 0 0) [] cs (some ⟨gx, 0, none⟩) cs.length cx (fun k => k < wB.heap.size ∨ wC.heap.size ≤ k) (fun k => k < wB.heap.size) rfl rfl ?aO ?aR ?aP ?aF ?aB ?aS ?aL ?_; (case aO => exact N_empty dL 34 wC _ _ (.inr (Nat.le_refl _)) (Nat.le_refl _)); (case aR => exact Kd.F_below HF.out (below_then HBB.out HBB.out.size (below_alloc (Below.refl _ _) _))); (case aP => exact fun k hk => ⟨.inl hk, fun he => by have h1 := HBB.out.size; have h2 : k = wC.heap.size := (by injection he); omega⟩); (case aF => exact fun k hk => .inr (by rw [World.size_alloc] at hk; omega)); (case aB => exact below_alloc (Below.refl _ _) _); (case aS => rw [World.size_alloc]; omega); (case aL => have h1 := HL.out; simp only [List.length_nil]; omega); intro v45 w45 ho_ hb_ hg_ hat_; have HN45 := Aside0.mk ho_; have HB45 := Aside0.mk hb_; have ef45 : ([] ++ cs : List (List Int)) = cs := List.nil_append cs; clear ho_ hb_ hg_ hat_)
   | ((with_reducible refine gate_builtin (b := .append) (xs := #[.tmp 45, .tmp 49]) rfl ?_); at_builtin; refine Kd.N_append dL (w0 := wC) wC.heap.size rfl (.tmp 45) (.tmp 49) 22 34 (.slice none 0 0) 24 rfl Try.underlying22 info34 rfl (by decide) (by omega) v45 cs [b1, 17] [.slice (some ⟨w45.heap.size, 0, none⟩) 2 2] (fun k => k < wB.heap.size ∨ wC.heap.size ≤ k) (fun k => k = w45.heap.size) rfl (by rw [World.size_alloc]; rfl) ?aP ?aQ ?aF ?aO ?aB ?aS ?aL ?_; (case aP => exact Kd.FK_slice_mk (Nat.le_refl _) (Kd.N_F (N_ints w45 [b1, 17] w45.heap.size (fun k => k = w45.heap.size) rfl (Nat.le_refl _) (by simp)))); (case aQ => exact fun k hk => ⟨.inr (by have := HB45.out.size; omega), fun he => by have := Kd.N_lt HN45.out k he.symm; omega⟩); (case aF => exact fun k hk => .inr (by rw [World.size_alloc] at hk; have := HB45.out.size; omega)); (case aO => exact Kd.N_alloc HN45.out _); (case aB => exact below_alloc HB45.out _); (case aS => rw [World.size_alloc]; have := HB45.out.size; omega); (case aL => have h1 := HL.out; omega); intro v50 w50 ho_ hb_ hg_ hat_; obtain ⟨gy, cy, rfl, hy1, hy2, _⟩ := Kd.N_form ho_ (by simp); have HYY := Aside0.mk (And.intro hy1 hy2); clear hy1 hy2; rw [show (cs ++ [[b1, 17]]).length = cs.length + 1 by simp] at ho_; have HN50 := Aside0.mk ho_; have HB50 := Aside0.mk hb_; clear ho_ hb_ hg_ hat_; have kA : w50.cell? ⟨ga, 1, none⟩ = some (.slice (some ⟨gx, 0, none⟩) cs.length cx) := (blk_cell (blk_below BA.out HB50.out) 1).trans rfl; have fA : w50.frozen? ⟨ga, 1, none⟩ = false := blk_frozen (blk_below BA.out HB50.out) 1))
 
 have f0 := below_then HBB.out HBB.out.size HB50.out
 have f1 := blk_set (blk_below BA.out HB50.out) 1 (.slice (some ⟨gy, 0, none⟩) (cs.length + 1) cy)
 have f2 := blk_far (blk_below BB.out HB50.out) (p := ⟨ga, 1, none⟩) (Ne.symm HNE.out.1.1) (.slice (some ⟨gy, 0, none⟩) (cs.length + 1) cy)
 have f3 := blk_far (blk_below BC.out HB50.out) (p := ⟨ga, 1, none⟩) (Ne.symm HNE.out.1.2.1) (.slice (some ⟨gy, 0, none⟩) (cs.length + 1) cy)
 have f4 := below_set (j := 1) (v := .slice (some ⟨gy, 0, none⟩) (cs.length + 1) cy) f0 HNE.out.2.1.1
 have f5 := Kd.N_bound (Kd.N_far HN50.out (p := ⟨ga, 1, none⟩) (fun k hk => by have h1 := HNE.out.2.1.1; have h2 := HLT.out.1; show k ≠ ga; omega) (.slice (some ⟨gy, 0, none⟩) (cs.length + 1) cy))
 clear f0 kA fA
 replace BA := Aside0.mk f1
 replace BB := Aside0.mk f2
 replace BC := Aside0.mk f3
 have HGD := Aside0.mk (show wC.heap.size ≤ (w50.setCell ⟨ga, 1, none⟩ (.slice (some ⟨gy, 0, none⟩) (cs.length + 1) cy)).heap.size by rw [World.size_setCell]; exact HB50.out.size)
 replace HBB := Aside0.mk f4
 have HNA := Aside0.mk f5
 clear f1 f2 f3 f4 f5 HN50 HB50 HN45 HB45 ef45 k1 hg7
 generalize w50.setCell ⟨ga, 1, none⟩ (.slice (some ⟨gy, 0, none⟩) (cs.length + 1) cy) = wD at BA BB BC HBB HNA HGD ⊢
 have k1 : wD.cell? ⟨g7, 1, none⟩ = some (.slice (some ⟨gx, 0, none⟩) cs.length cx) := (blk_cell (blk_below BX.out HBB.out) 1).trans rfl
 have hg7 : g7 < wD.heap.size := blk_lt (blk_below BX.out HBB.out)
 go_upto_region 9 with ((with_reducible refine gate_builtin (b := .append) (xs := #[.tmp 52, .tmp 54]) rfl ?_); at_builtin; refine Kd.N_append_rows dL (w0 := wD) wD.heap.size rfl (.tmp 52) (.tmp 54) 22 34 (.slice none 0 0) 24 rfl Try.underlying22 info34 rfl (by decide) (by omega) (.slice (some ⟨wD.heap.size, 0, none⟩) 0 0) [] cs (some ⟨gx, 0, none⟩) cs.length cx (fun k => k < wB.heap.size ∨ wD.heap.size ≤ k) (fun k => k < wB.heap.size) rfl rfl ?aO ?aR ?aP ?aF ?aB ?aS ?aL ?_; (case aO => exact N_empty dL 34 wD _ _ (.inr (Nat.le_refl _)) (Nat.le_refl _)); (case aR => exact Kd.F_below HF.out (below_then HBB.out HBB.out.size (below_alloc (Below.refl _ _) _))); (case aP => exact fun k hk => ⟨.inl hk, fun he => by have h1 := HBB.out.size; have h2 : k = wD.heap.size := (by injection he); omega⟩); (case aF => exact fun k hk => .inr (by rw [World.size_alloc] at hk; omega)); (case aB => exact below_alloc (Below.refl _ _) _); (case aS => rw [World.size_alloc]; omega); (case aL => have h1 := HL.out; simp only [List.length_nil]; omega); intro v55 w55 ho_ hb_ hg_ hat_; have HN55 := Aside0.mk ho_; have HB55 := Aside0.mk hb_; have ef55 : ([] ++ cs : List (List Int)) = cs := List.nil_append cs; clear ho_ hb_ hg_ hat_; obtain ⟨gz, cz, rfl, hz1, hz2, _⟩ := Kd.N_form HN55.out (by have := HL.out; simp only [List.nil_append]; omega); have HZZ := Aside0.mk (And.intro hz1 hz2); clear hz1 hz2; rw [ef55] at HN55; have kB : w55.cell? ⟨gb, 1, none⟩ = some (.slice (some ⟨gx, 0, none⟩) cs.length cx) := (blk_cell (blk_below BB.out HB55.out) 1).trans rfl; have fB : w55.frozen? ⟨gb, 1, none⟩ = false := blk_frozen (blk_below BB.out HB55.out) 1)
 have f0 := below_then HBB.out HBB.out.size HB55.out
 have f2 := blk_set (blk_below BB.out HB55.out) 1 (.slice (some ⟨gz, 0, none⟩) cs.length cz)
 have f1 := blk_far (blk_below BA.out HB55.out) (p := ⟨gb, 1, none⟩) HNE.out.1.1 (.slice (some ⟨gz, 0, none⟩) cs.length cz)
 have f3 := blk_far (blk_below BC.out HB55.out) (p := ⟨gb, 1, none⟩) (Ne.symm HNE.out.1.2.2) (.slice (some ⟨gz, 0, none⟩) cs.length cz)
 have f4 := below_set (j := 1) (v := .slice (some ⟨gz, 0, none⟩) cs.length cz) f0 HNE.out.2.1.2.1
 have f5 := Kd.N_far (Kd.N_below HNA.out HB55.out) (p := ⟨gb, 1, none⟩) (fun k hk => by have h1 := HNE.out.2.1.2.1; have h2 := HLT.out.2.1; show k ≠ gb; omega) (.slice (some ⟨gz, 0, none⟩) cs.length cz)
 have f6 := Kd.N_far HN55.out (p := ⟨gb, 1, none⟩) (fun k hk => by have h1 := HNE.out.2.1.2.1; have h2 := HLT.out.2.1; have h3 := HGD.out; show k ≠ gb; omega) (.slice (some ⟨gz, 0, none⟩) cs.length cz)
 replace BA := Aside0.mk (blk_drew f1)
 replace BB := Aside0.mk (blk_drew f2)
 replace BC := Aside0.mk (blk_drew f3)
 have HZL := Aside0.mk (show gz < (w55.setCell ⟨gb, 1, none⟩ (.slice (some ⟨gz, 0, none⟩) cs.length cz)).drew.heap.size by show gz < (w55.setCell ⟨gb, 1, none⟩ (.slice (some ⟨gz, 0, none⟩) cs.length cz)).heap.size; rw [World.size_setCell]; exact HZZ.out.2)
 have HGE := Aside0.mk (show wD.heap.size ≤ (w55.setCell ⟨gb, 1, none⟩ (.slice (some ⟨gz, 0, none⟩) cs.length cz)).drew.heap.size by show wD.heap.size ≤ (w55.setCell ⟨gb, 1, none⟩ (.slice (some ⟨gz, 0, none⟩) cs.length cz)).heap.size; rw [World.size_setCell]; exact HB55.out.size)
 replace HBB := Aside0.mk (below_drew1 f4)
 replace HNA := Aside0.mk (Kd.N_drew f5)
 have HNB := Aside0.mk (Kd.N_drew f6)
 clear f0 f1 f2 f3 f4 f5 f6 kB fB HN55 HB55 ef55 k1 hg7
 obtain ⟨ad, c0, ead, hcl, hFK, hcc, _⟩ := Kd.F_get (Kd.F_below HF.out HBB.out) [] 0 (by omega) (by have := HL.out; omega)
 obtain rfl := Option.some.inj ead
 obtain ⟨A0, c9, rfl, hc9, hF0⟩ := Kd.FK_slice_open hFK
 obtain ⟨row0, hrow⟩ : ∃ row0, row0 = cs.getD 0 [] := ⟨_, rfl⟩
 have hx0 := hcc 0 _ rfl
 rw [add_plain] at hx0
 rw [show cs.getD (0 : Int).toNat [] = row0 from hrow.symm] at hx0 hc9 hF0
 have HRW := Aside0.mk hrow
 have HFR := Aside0.mk hF0
 have HRL := Aside0.mk (show row0.length ≤ 5 by rw [hrow]; have h7 := (HM.out.inn 0 (by have := HL.out; omega)).2.1; omega)
 have n0 : 0 < cs.length := by have := HL.out; omega
 clear hcl hFK hcc hrow hF0 hc9
 refine start_ (n := 14) (S := fun w' => w'.cell? ⟨gb, 1, none⟩ = some (.slice (some ⟨gz, 0, none⟩) cs.length cz) ∧ w'.cell? ⟨g7, 1, none⟩ = some (.slice (some ⟨gx, 0, none⟩) cs.length cx) ∧ w'.cell? ⟨gx, 0, none⟩ = some (.slice A0 row0.length c9)) (ds := [13]) #[false, false, false, false, false, false, false, false, false, false, false, false, false, false] (by kernel_rfl) rfl rfl ⟨(blk_cell BB.out 1).trans rfl, (blk_cell (blk_below BX.out HBB.out) 1).trans rfl, hx0⟩ (fun hHeld => ?_)
 refine with_tabW more_tab9 more_bits9 (fun HT_ HW_ => ?_)
 generalize (w55.setCell ⟨gb, 1, none⟩ (.slice (some ⟨gz, 0, none⟩) cs.length cz)).drew = wF at BA BB BC HBB HNA HNB HZL HGE HFR hx0 hHeld ⊢
 have HSF := Aside0.mk (fun (W' : World) (hb : Below wF.heap.size wF W') => (⟨(blk_cell (blk_below BB.out hb) 1).trans rfl, (blk_cell (blk_below BX.out (below_then HBB.out HBB.out.size hb)) 1).trans rfl, (hb.cell (World.block_lt_of_cell? wF _ hx0)).trans hx0⟩ : W'.cell? ⟨gb, 1, none⟩ = some (.slice (some ⟨gz, 0, none⟩) cs.length cz) ∧ W'.cell? ⟨g7, 1, none⟩ = some (.slice (some ⟨gx, 0, none⟩) cs.length cx) ∧ W'.cell? ⟨gx, 0, none⟩ = some (.slice A0 row0.length c9)))
 clear hx0
 refine pure_ (i := 0) (N := some 57) (v := ?_) (a' := ?_) #[true, false, false, false, false, false, false, false, false, false, false, false, false, false] rfl rfl (any_of HT_.out (by kernel_rfl)) (fun _ _ _ h => h) (Or.inl ⟨by rfl, ?_⟩) ?_ ?_
 rotate_left
 · intro w'
   go_simp
   with_reducible rfl
 rotate_left
 · simp only [Act.put, List.setIfInBounds_toArray, List.set_cons_zero, List.set_cons_succ, i64_w, i32_w]
   rfl
 refine take_ (i := 1) (N := some 58) (v := ?_) (a' := ?_) #[true, true, false, false, false, false, false, false, false, false, false, false, false, false] rfl rfl (take_ofW HT_.out HW_.out (by kernel_rfl)) (fun _ _ _ h => h) (Or.inl ⟨by rfl, ?_⟩) hHeld ?_ ?_
 rotate_left
 · rintro w' ⟨s0, s1, s2⟩
   go_simp
   with_reducible rfl
 rotate_left
 · simp only [Act.put, List.setIfInBounds_toArray, List.set_cons_zero, List.set_cons_succ, i64_w, i32_w]
   rfl
 refine pure_ (i := 3) (N := some 60) (v := ?_) (a' := ?_) #[true, true, false, true, false, false, false, false, false, false, false, false, false, false] rfl rfl (any_of HT_.out (by kernel_rfl)) (fun _ _ _ h => h) (Or.inl ⟨by rfl, ?_⟩) ?_ ?_
 rotate_left
 · intro w'
   go_simp
   with_reducible rfl
 rotate_left
 · simp only [Act.put, List.setIfInBounds_toArray, List.set_cons_zero, List.set_cons_succ, i64_w, i32_w]
   rfl
 refine take_ (i := 4) (N := some 61) (v := ?_) (a' := ?_) #[true, true, false, true, true, false, false, false, false, false, false, false, false, false] rfl rfl (take_ofW HT_.out HW_.out (by kernel_rfl)) (fun _ _ _ h => h) (Or.inl ⟨by rfl, ?_⟩) hHeld ?_ ?_
 rotate_left
 · rintro w' ⟨s0, s1, s2⟩
   go_simp
   with_reducible rfl
 rotate_left
 · simp only [Act.put, List.setIfInBounds_toArray, List.set_cons_zero, List.set_cons_succ, i64_w, i32_w]
   rfl
 refine pure_ (i := 5) (N := some 62) (v := ?_) (a' := ?_) #[true, true, false, true, true, true, false, false, false, false, false, false, false, false] rfl rfl (any_of HT_.out (by kernel_rfl)) (fun _ _ _ h => h) (Or.inl ⟨by rfl, ?_⟩) ?_ ?_
 rotate_left
 · intro w'
   go_simp
   with_reducible rfl
 rotate_left
 · simp only [Act.put, List.setIfInBounds_toArray, List.set_cons_zero, List.set_cons_succ, i64_w, i32_w]
   rfl
 refine take_ (i := 6) (N := some 63) (v := ?_) (a' := ?_) #[true, true, false, true, true, true, true, false, false, false, false, false, false, false] rfl rfl (take_ofW HT_.out HW_.out (by kernel_rfl)) (fun _ _ _ h => h) (Or.inl ⟨by rfl, ?_⟩) hHeld ?_ ?_
 rotate_left
 · rintro w' ⟨s0, s1, s2⟩
   go_simp
   with_reducible rfl
 rotate_left
 · simp only [Act.put, List.setIfInBounds_toArray, List.set_cons_zero, List.set_cons_succ, i64_w, i32_w]
   rfl
 refine pure_ (i := 8) (N := some 65) (v := ?_) (a' := ?_) #[true, true, false, true, true, true, true, false, true, false, false, false, false, false] rfl rfl (any_of HT_.out (by kernel_rfl)) (fun _ _ _ h => h) (Or.inl ⟨by rfl, ?_⟩) ?_ ?_
 rotate_left
 · intro w'
   go_simp
   with_reducible rfl
 rotate_left
 · simp only [Act.put, List.setIfInBounds_toArray, List.set_cons_zero, List.set_cons_succ, i64_w, i32_w]
   rfl
 refine pure_ (i := 9) (N := some 66) (v := ?_) (a' := ?_) #[true, true, false, true, true, true, true, false, true, true, false, false, false, false] rfl rfl (any_of HT_.out (by kernel_rfl)) (fun _ _ _ h => h) (Or.inl ⟨by rfl, ?_⟩) ?_ ?_
 rotate_left
 · intro w'
   go_simp
   with_reducible rfl
 rotate_left
 · simp only [Act.put, List.setIfInBounds_toArray, List.set_cons_zero, List.set_cons_succ, i64_w, i32_w]
   rfl
 have ew : wrap64 b1 = b1 := w64' _ (by omega) (by omega)
 rw [ew]
 clear ew
 refine join_ (σ := Value × Value × Value) 3 #[true, true, true, true, true, true, true, true, true, true, true, false, false, false] (fun s_ => [(59, s_.1), (64, s_.2.1), (67, s_.2.2)]) (fun s_ w_ => ∃ b67 : Nat, Below wF.heap.size wF w_ ∧ Kd.N dN 3 w_ wF.heap.size (fun k => k < wB.heap.size ∨ wF.heap.size ≤ k) s_.2.1 row0 ∧ Kd.N dN 3 w_ wF.heap.size (fun k => k = b67) s_.2.2 [b1] ∧ some b67 ≠ s_.2.1.ownBlock ∧ wF.heap.size ≤ b67) ?_ ?_
 rotate_left
 · intro hCont
   have HS0 := Aside0.mk (Below.refl wF.heap.size wF)
   refine two_ (i := 2) (j := 10) (Ni := some 59) (Nj := some 67) #[true, true, true, true, true, true, true, false, true, true, false, false, false, false] #[true, true, false, true, true, true, true, false, true, true, true, false, false, false] rfl rfl rfl rfl (two_of HT_.out (by kernel_rfl)) (by decide) (by decide) (fun K hK => ?_) (fun K hK => ?_)
   · skip
     refine Kd.N_lit_step dN _ 3 ?hg (N' := 59) ?hd (xs := ([] : List Int)) (inner := []) (ok := fun k => k < wB.heap.size ∨ wF.heap.size ≤ k) (okp := fun _ => False) ?hr (Reps.none _ _) (fun _ hk => hk.elim) (.inr HS0.out.size) (Below.refl _ _) (Nat.le_refl _) (by simp) ?_
     (case hd => rfl)
     (case hg => rfl)
     (case hr => first | (go_simp; done) | (go_simp; rfl))
     intro v59 w_a ho_ hb_ hg_ hnew_
     have L59 := Aside0.mk (Kd.N_lower ho_ HS0.out.size)
     have E59 := Aside0.mk hnew_
     have HB_a := Aside0.mk hb_
     have HSa := Aside0.mk (below_then HS0.out HS0.out.size hb_)
     clear ho_ hb_ hg_ hnew_
     refine hK.out _ _ (HSF.out _ HSa.out) (fun hHeld => ?_)
     clear hK K
     refine norm_ (a' := ?_) ?_ ?_
     rotate_left
     · show Act.put _ (some 59) _ = _
       simp only [Act.put, List.setIfInBounds_toArray, List.set_cons_zero, List.set_cons_succ, i64_w, i32_w]
       rfl
     refine two_ (i := 7) (j := 10) (Ni := some 64) (Nj := some 67) #[true, true, true, true, true, true, true, true, true, true, false, false, false, false] #[true, true, true, true, true, true, true, false, true, true, true, false, false, false] rfl rfl rfl rfl (two_of HT_.out (by kernel_rfl)) (by decide) (by decide) (fun K hK => ?_) (fun K hK => ?_)
     · skip
       refine Kd.N_append_rows_step dN (w0 := wF) wF.heap.size (by rfl) (.tmp 59) (.tmp 63) 34 3 (.int .i64 0) 8 rfl Try.underlying34 info3 rfl (by decide) (by omega) v59 [] row0 A0 row0.length c9 (fun k => k < wB.heap.size ∨ wF.heap.size ≤ k) (fun k => k < wB.heap.size) rfl rfl L59.out (Kd.F_below HFR.out HSa.out) ?aP ?aF HSa.out HSa.out.size ?aL ?_
       (case aP => exact fun k hk => ⟨.inl hk, fun he => by have h1 := Kd.N_base L59.out k he.symm; have h2 := HGE.out; have h3 := HGD.out; have h4 := HLT.out.1; have h5 := HNE.out.2.1.1; omega⟩)
       (case aF => exact fun k hk => .inr (Nat.le_trans HSa.out.size hk))
       (case aL => have h1 := HRL.out; simp only [List.length_nil]; omega)
       intro v64 w_b ho_ hb_ hg_ hat_
       have L64 := Aside0.mk (show Kd.N dN 3 w_b wF.heap.size _ v64 row0 from ho_)
       have HSb := Aside0.mk hb_
       have E64 := Aside0.mk hat_
       have HG64 := Aside0.mk hg_
       clear ho_ hb_ hg_ hat_
       refine hK.out _ _ (HSF.out _ HSb.out) (fun hHeld => ?_)
       clear hK K
       refine norm_ (a' := ?_) ?_ ?_
       rotate_left
       · show Act.put _ (some 64) _ = _
         simp only [Act.put, List.setIfInBounds_toArray, List.set_cons_zero, List.set_cons_succ, i64_w, i32_w]
         rfl
       refine one_ (i := 10) (N := some 67) #[true, true, true, true, true, true, true, true, true, true, true, false, false, false] rfl rfl (one_of HT_.out (by kernel_rfl)) (by decide) (fun K hK => ?_)
       refine Kd.N_lit_step dN _ 3 ?hg (N' := 67) ?hd (xs := [b1]) (inner := [.int .i64 b1]) (ok := fun k => k = w_b.heap.size) (okp := fun _ => False) ?hr (Reps.one (show Kd.FK dN _ _ b1 [.int .i64 b1] from fun _ _ => rfl) (Reps.none _ _)) (fun _ hk => hk.elim) rfl (Below.refl _ _) (Nat.le_refl _) (by simp) ?_
       (case hd => rfl)
       (case hg => rfl)
       (case hr => first | (go_simp; done) | (go_simp; rfl))
       intro v67 w_c ho_ hb_ hg_ hnew_
       have L67 := Aside0.mk (Kd.N_lower ho_ HSb.out.size)
       have HB_c := Aside0.mk hb_
       have HSc := Aside0.mk (below_then HSb.out HSb.out.size hb_)
       clear ho_ hb_ hg_ hnew_
       refine hK.out _ _ (HSF.out _ HSc.out) (fun hHeld => ?_)
       clear hK K
       refine norm_ (a' := ?_) ?_ ?_
       rotate_left
       · show Act.put _ (some 67) _ = _
         simp only [Act.put, List.setIfInBounds_toArray, List.set_cons_zero, List.set_cons_succ, i64_w, i32_w]
         rfl
       exact norm_ (by simp only [putAll, Act.put, List.setIfInBounds_toArray, List.set_cons_zero, List.set_cons_succ]) (hCont (v59, v64, v67) _ ⟨_, HSc.out, Kd.N_below L64.out HB_c.out, L67.out, fun he => by have := Kd.N_lt L64.out _ he.symm; omega, HSb.out.size⟩)
     · skip
       have E9 := Aside0.mk (fun k (hk : v59.ownBlock = some k) => Kd.N_lt L59.out k hk)
       refine Kd.N_lit_step dN _ 3 ?hg (N' := 67) ?hd (xs := [b1]) (inner := [.int .i64 b1]) (ok := fun k => k = w_a.heap.size) (okp := fun _ => False) ?hr (Reps.one (show Kd.FK dN _ _ b1 [.int .i64 b1] from fun _ _ => rfl) (Reps.none _ _)) (fun _ hk => hk.elim) rfl (Below.refl _ _) (Nat.le_refl _) (by simp) ?_
       (case hd => rfl)
       (case hg => rfl)
       (case hr => first | (go_simp; done) | (go_simp; rfl))
       intro v67 w_b ho_ hb_ hg_ hnew_
       have L67 := Aside0.mk (Kd.N_lower ho_ HSa.out.size)
       have HB_b := Aside0.mk hb_
       have HSb := Aside0.mk (below_then HSa.out HSa.out.size hb_)
       clear ho_ hb_ hg_ hnew_
       refine hK.out _ _ (HSF.out _ HSb.out) (fun hHeld => ?_)
       clear hK K
       refine norm_ (a' := ?_) ?_ ?_
       rotate_left
       · show Act.put _ (some 67) _ = _
         simp only [Act.put, List.setIfInBounds_toArray, List.set_cons_zero, List.set_cons_succ, i64_w, i32_w]
         rfl
       replace L59 := Aside0.mk (Kd.N_below L59.out HB_b.out)
       have E7 := Aside0.mk (show w_a.heap.size < w_b.heap.size by obtain ⟨g, _, e, _, h1, _⟩ := Kd.N_form L67.out (by simp); subst e; have h2 := L67.out.1 g rfl; omega)
       refine one_ (i := 7) (N := some 64) #[true, true, true, true, true, true, true, true, true, true, true, false, false, false] rfl rfl (one_of HT_.out (by kernel_rfl)) (by decide) (fun K hK => ?_)
       refine Kd.N_append_rows_step dN (w0 := wF) wF.heap.size (by rfl) (.tmp 59) (.tmp 63) 34 3 (.int .i64 0) 8 rfl Try.underlying34 info3 rfl (by decide) (by omega) v59 [] row0 A0 row0.length c9 (fun k => k < wB.heap.size ∨ wF.heap.size ≤ k) (fun k => k < wB.heap.size) rfl rfl L59.out (Kd.F_below HFR.out HSb.out) ?aP ?aF HSb.out HSb.out.size ?aL ?_
       (case aP => exact fun k hk => ⟨.inl hk, fun he => by have h1 := Kd.N_base L59.out k he.symm; have h2 := HGE.out; have h3 := HGD.out; have h4 := HLT.out.1; have h5 := HNE.out.2.1.1; omega⟩)
       (case aF => exact fun k hk => .inr (Nat.le_trans HSb.out.size hk))
       (case aL => have h1 := HRL.out; simp only [List.length_nil]; omega)
       intro v64 w_c ho_ hb_ hg_ hat_
       have L64 := Aside0.mk (show Kd.N dN 3 w_c wF.heap.size _ v64 row0 from ho_)
       have HSc := Aside0.mk hb_
       have E64 := Aside0.mk hat_
       have HG64 := Aside0.mk hg_
       clear ho_ hb_ hg_ hat_
       refine hK.out _ _ (HSF.out _ HSc.out) (fun hHeld => ?_)
       clear hK K
       refine norm_ (a' := ?_) ?_ ?_
       rotate_left
       · show Act.put _ (some 64) _ = _
         simp only [Act.put, List.setIfInBounds_toArray, List.set_cons_zero, List.set_cons_succ, i64_w, i32_w]
         rfl
       exact norm_ (by simp only [putAll, Act.put, List.setIfInBounds_toArray, List.set_cons_zero, List.set_cons_succ]) (hCont (v59, v64, v67) _ ⟨_, HSc.out, L64.out, Kd.N_grown L67.out HG64.out (fun k hk he => by have := E9.out k he.symm; omega), fun he => by rcases E64.out with h | ⟨b, h, hb⟩; (· have := E9.out _ (h.symm.trans he.symm); omega); (· rw [h] at he; have := E7.out; injection he; omega), HSa.out.size⟩)
   · skip
     refine Kd.N_lit_step dN _ 3 ?hg (N' := 67) ?hd (xs := [b1]) (inner := [.int .i64 b1]) (ok := fun k => k = wF.heap.size) (okp := fun _ => False) ?hr (Reps.one (show Kd.FK dN _ _ b1 [.int .i64 b1] from fun _ _ => rfl) (Reps.none _ _)) (fun _ hk => hk.elim) rfl (Below.refl _ _) (Nat.le_refl _) (by simp) ?_
     (case hd => rfl)
     (case hg => rfl)
     (case hr => first | (go_simp; done) | (go_simp; rfl))
     intro v67 w_a ho_ hb_ hg_ hnew_
     have L67 := Aside0.mk (Kd.N_lower ho_ HS0.out.size)
     have HB_a := Aside0.mk hb_
     have HSa := Aside0.mk (below_then HS0.out HS0.out.size hb_)
     clear ho_ hb_ hg_ hnew_
     refine hK.out _ _ (HSF.out _ HSa.out) (fun hHeld => ?_)
     clear hK K
     refine norm_ (a' := ?_) ?_ ?_
     rotate_left
     · show Act.put _ (some 67) _ = _
       simp only [Act.put, List.setIfInBounds_toArray, List.set_cons_zero, List.set_cons_succ, i64_w, i32_w]
       rfl
     have E7 := Aside0.mk (show wF.heap.size < w_a.heap.size by obtain ⟨g, _, e, _, h1, _⟩ := Kd.N_form L67.out (by simp); subst e; have h2 := L67.out.1 g rfl; omega)
     refine one_ (i := 2) (N := some 59) #[true, true, true, true, true, true, true, false, true, true, true, false, false, false] rfl rfl (one_of HT_.out (by kernel_rfl)) (by decide) (fun K hK => ?_)
     refine Kd.N_lit_step dN _ 3 ?hg (N' := 59) ?hd (xs := ([] : List Int)) (inner := []) (ok := fun k => k < wB.heap.size ∨ wF.heap.size ≤ k) (okp := fun _ => False) ?hr (Reps.none _ _) (fun _ hk => hk.elim) (.inr HSa.out.size) (Below.refl _ _) (Nat.le_refl _) (by simp) ?_
     (case hd => rfl)
     (case hg => rfl)
     (case hr => first | (go_simp; done) | (go_simp; rfl))
     intro v59 w_b ho_ hb_ hg_ hnew_
     have L59 := Aside0.mk (Kd.N_lower ho_ HSa.out.size)
     have E59 := Aside0.mk hnew_
     have HB_b := Aside0.mk hb_
     have HSb := Aside0.mk (below_then HSa.out HSa.out.size hb_)
     clear ho_ hb_ hg_ hnew_
     refine hK.out _ _ (HSF.out _ HSb.out) (fun hHeld => ?_)
     clear hK K
     refine norm_ (a' := ?_) ?_ ?_
     rotate_left
     · show Act.put _ (some 59) _ = _
       simp only [Act.put, List.setIfInBounds_toArray, List.set_cons_zero, List.set_cons_succ, i64_w, i32_w]
       rfl
     refine one_ (i := 7) (N := some 64) #[true, true, true, true, true, true, true, true, true, true, true, false, false, false] rfl rfl (one_of HT_.out (by kernel_rfl)) (by decide) (fun K hK => ?_)
     replace L67 := Aside0.mk (Kd.N_below L67.out HB_b.out)
     refine Kd.N_append_rows_step dN (w0 := wF) wF.heap.size (by rfl) (.tmp 59) (.tmp 63) 34 3 (.int .i64 0) 8 rfl Try.underlying34 info3 rfl (by decide) (by omega) v59 [] row0 A0 row0.length c9 (fun k => k < wB.heap.size ∨ wF.heap.size ≤ k) (fun k => k < wB.heap.size) rfl rfl L59.out (Kd.F_below HFR.out HSb.out) ?aP ?aF HSb.out HSb.out.size ?aL ?_
     (case aP => exact fun k hk => ⟨.inl hk, fun he => by have h1 := Kd.N_base L59.out k he.symm; have h2 := HGE.out; have h3 := HGD.out; have h4 := HLT.out.1; have h5 := HNE.out.2.1.1; omega⟩)
     (case aF => exact fun k hk => .inr (Nat.le_trans HSb.out.size hk))
     (case aL => have h1 := HRL.out; simp only [List.length_nil]; omega)
     intro v64 w_c ho_ hb_ hg_ hat_
     have L64 := Aside0.mk (show Kd.N dN 3 w_c wF.heap.size _ v64 row0 from ho_)
     have HSc := Aside0.mk hb_
     have E64 := Aside0.mk hat_
     have HG64 := Aside0.mk hg_
     clear ho_ hb_ hg_ hat_
     refine hK.out _ _ (HSF.out _ HSc.out) (fun hHeld => ?_)
     clear hK K
     refine norm_ (a' := ?_) ?_ ?_
     rotate_left
     · show Act.put _ (some 64) _ = _
       simp only [Act.put, List.setIfInBounds_toArray, List.set_cons_zero, List.set_cons_succ, i64_w, i32_w]
       rfl
     have E9 := Aside0.mk (fun k (hk : v59.ownBlock = some k) => (show w_a.heap.size ≤ k by obtain ⟨b, h, hb⟩ := E59.out; rw [hk] at h; injection h; omega))
     exact norm_ (by simp only [putAll, Act.put, List.setIfInBounds_toArray, List.set_cons_zero, List.set_cons_succ]) (hCont (v59, v64, v67) _ ⟨_, HSc.out, L64.out, Kd.N_grown L67.out HG64.out (fun k hk he => by have := E9.out k he.symm; have := E7.out; omega), fun he => by rcases E64.out with h | ⟨b, h, hb⟩; (· have := E9.out _ (h.symm.trans he.symm); have := E7.out; omega); (· rw [h] at he; have := E7.out; have := HB_b.out.size; injection he; omega), Nat.le_refl _⟩)
 rintro ⟨v59, v64, v67⟩ wG ⟨b67, HSG, L64, L67, hne, hbg⟩
 obtain ⟨A67, c67, rfl⟩ := Kd.N_slice L67
 replace L67 := Aside0.mk L67
 replace L64 := Aside0.mk L64
 have HS6 := Aside0.mk (And.intro HSG (And.intro hne hbg))
 clear HSG hne hbg
 refine norm_ (a' := ?_) ?_ ?_
 rotate_left
 · simp only [putAll, Act.put, List.setIfInBounds_toArray, List.set_cons_zero, List.set_cons_succ]
   rfl
 refine one_ (i := 11) (N := some 68) #[true, true, true, true, true, true, true, true, true, true, true, true, false, false] rfl rfl (one_of HT_.out (by kernel_rfl)) (by decide) (fun K hK => ?_)
 refine Kd.N_append_rows_step dN (w0 := wF) wF.heap.size (by rfl) (.tmp 64) (.tmp 67) 34 3 (.int .i64 0) 8 rfl Try.underlying34 info3 rfl (by decide) (by omega) v64 row0 [b1] A67 [b1].length c67 (fun k => k < wB.heap.size ∨ wF.heap.size ≤ k) (fun k => k = b67) rfl rfl L64.out (Kd.N_F L67.out) ?aP ?aF HS6.out.1 HS6.out.1.size ?aL ?_
 (case aP => exact fun k hk => by subst hk; exact ⟨.inr HS6.out.2.2, HS6.out.2.1⟩)
 (case aF => exact fun k hk => .inr (Nat.le_trans HS6.out.1.size hk))
 (case aL => have h1 := HRL.out; simp only [List.length_cons, List.length_nil]; omega)
 intro v68 wH ho_ hb_ hg_ hat_
 obtain ⟨g8, c8, rfl, _, _, _⟩ := Kd.N_form ho_ (by simp)
 have L68 := Aside0.mk ho_
 have HSH := Aside0.mk hb_
 clear ho_ hb_ hg_ hat_ L64 L67 HS6
 refine hK.out _ _ (HSF.out _ HSH.out) (fun hHeld => ?_)
 clear hK K
 refine norm_ (a' := ?_) ?_ ?_
 rotate_left
 · show Act.put _ (some 68) _ = _
   simp only [Act.put, List.setIfInBounds_toArray, List.set_cons_zero, List.set_cons_succ, i64_w, i32_w]
   rfl
 refine pure_ (i := 12) (N := some 69) (v := ?_) (a' := ?_) #[true, true, true, true, true, true, true, true, true, true, true, true, true, false] rfl rfl (any_of HT_.out (by kernel_rfl)) (fun _ _ _ h => h) (Or.inl ⟨by rfl, ?_⟩) ?_ ?_
 rotate_left
 · intro w'
   go_simp
   with_reducible rfl
 rotate_left
 · simp only [Act.put, List.setIfInBounds_toArray, List.set_cons_zero, List.set_cons_succ, i64_w, i32_w]
   rfl
 have HN9 := Aside0.mk (Kd.N_below HNB.out HSH.out)
 obtain ⟨cc9, hcl9, _, hcc9, hfr9⟩ := Kd.N_elem HN9.out [] 0 (by omega) (by omega)
 obtain ⟨u9, rfl⟩ : ∃ u, cc9 = [u] := by match cc9, hcl9 with | [u], _ => exact ⟨u, rfl⟩
 have k9 : wH.cell? ⟨gz, 0, none⟩ = some u9 := hcc9 0 u9 rfl
 have f9 : wH.frozen? ⟨gz, 0, none⟩ = false := hfr9 0
 clear hcl9 hcc9 hfr9
 refine last_ (i := 13) (N := none) #[true, true, true, true, true, true, true, true, true, true, true, true, true, true] rfl rfl (one_of HT_.out (by kernel_rfl)) (by decide) (fun K hK => ?_)
 refine store_step (w1 := wH.setCell ⟨gz, 0, none⟩ (.slice (some ⟨g8, 0, none⟩) (row0 ++ [b1]).length c8)) (by rfl) rfl ?hr ?_
 (case hr => first | (go_simp; done) | (go_simp; rfl))
 refine hK.out _ _ ?_
 clear hK K
 have hzz : wD.heap.size ≤ gz := HZZ.out.1
 have hcd : wC.heap.size ≤ wD.heap.size := HGD.out
 have hgl := HLT.out
 have f0 := below_then HBB.out HBB.out.size HSH.out
 have f1 := blk_far (blk_below BA.out HSH.out) (p := ⟨gz, 0, none⟩) (show ga ≠ gz by omega) (.slice (some ⟨g8, 0, none⟩) (row0 ++ [b1]).length c8)
 have f2 := blk_far (blk_below BB.out HSH.out) (p := ⟨gz, 0, none⟩) (show gb ≠ gz by omega) (.slice (some ⟨g8, 0, none⟩) (row0 ++ [b1]).length c8)
 have f3 := blk_far (blk_below BC.out HSH.out) (p := ⟨gz, 0, none⟩) (show gc ≠ gz by omega) (.slice (some ⟨g8, 0, none⟩) (row0 ++ [b1]).length c8)
 have f4 := below_set (j := 0) (v := .slice (some ⟨g8, 0, none⟩) (row0 ++ [b1]).length c8) f0 (show wB.heap.size ≤ gz by have := HNE.out.2.1.1; omega)
 have f5 := Kd.N_far (Kd.N_below HNA.out HSH.out) (p := ⟨gz, 0, none⟩) (fun k hk => by have := hk.2; show k ≠ gz; omega) (.slice (some ⟨g8, 0, none⟩) (row0 ++ [b1]).length c8)
 have f6 := N_put0 (okp := fun k => k < wB.heap.size ∨ wF.heap.size ≤ k) HN9.out (Kd.FK_slice_mk (by have := (Kd.N_reads' L68.out).2.1; omega) (Kd.N_F L68.out)) (fun k hk => by have h1 := HZL.out; have h2 := HNE.out.2.1.1; omega) n0
 replace BA := Aside0.mk f1
 replace BB := Aside0.mk f2
 replace BC := Aside0.mk f3
 replace HBB := Aside0.mk f4
 replace HNA := Aside0.mk f5
 have HCB := Aside0.mk f6
 have HFS := Aside0.mk (show wC.heap.size ≤ wF.heap.size from Nat.le_trans HGD.out HGE.out)
 have hcz : cs.length ≤ cz := (Kd.N_reads' HNB.out).2.1
 clear f0 f1 f2 f3 f4 f5 f6 k9 f9 hHeld HN9 HNB HZL HGE HFR L68 HSH HSF hzz hcd hgl
 generalize wH.setCell ⟨gz, 0, none⟩ (.slice (some ⟨g8, 0, none⟩) (row0 ++ [b1]).length c8) = wI at BA BB BC HBB HNA HCB ⊢
 refine done_ (done_of HT_.out (by kernel_rfl)) ?_
 clear HT_ HW_
 go_upto_region 10 with fail
 replace BA := Aside0.mk (blk_drew BA.out)
 replace BB := Aside0.mk (blk_drew BB.out)
 replace BC := Aside0.mk (blk_drew BC.out)
 replace HBB := Aside0.mk (below_drew1 HBB.out)
 replace HNA := Aside0.mk (Kd.N_drew HNA.out)
 replace HCB := Aside0.mk (Kd.F_drew HCB.out)
 refine start_ (n := 11) (S := fun w' => w'.cell? ⟨g7, 0, none⟩ = some (.int .i64 off)) (ds := [10]) #[false, false, false, false, false, false, false, false, false, false, false] (by kernel_rfl) rfl rfl (show _ from (blk_cell (blk_below BX.out HBB.out) 0).trans rfl) (fun hHeld => ?_)
 refine with_tabW more_tab10 more_bits10 (fun HT_ HW_ => ?_)
 generalize wI.drew = wJ at BA BB BC HBB HNA HCB hHeld ⊢
 have t4 : ¬ wrap64 (off + 1) = 0 := by have := HO.out; rw [w64' _ (by omega) (by omega)]; omega
 refine pure_ (i := 0) (N := some 70) (v := ?_) (a' := ?_) #[true, false, false, false, false, false, false, false, false, false, false] rfl rfl (any_of HT_.out (by kernel_rfl)) (fun _ _ _ h => h) (Or.inl ⟨by rfl, ?_⟩) ?_ ?_
 rotate_left
 · intro w'
   go_simp
   with_reducible rfl
 rotate_left
 · simp only [Act.put, List.setIfInBounds_toArray, List.set_cons_zero, List.set_cons_succ, i64_w, i32_w]
   rfl
 refine take_ (i := 1) (N := some 71) (v := ?_) (a' := ?_) #[true, true, false, false, false, false, false, false, false, false, false] rfl rfl (take_ofW HT_.out HW_.out (by kernel_rfl)) (fun _ _ _ h => h) (Or.inl ⟨by rfl, ?_⟩) hHeld ?_ ?_
 rotate_left
 · rintro w' s0
   go_simp
   with_reducible rfl
 rotate_left
 · simp only [Act.put, List.setIfInBounds_toArray, List.set_cons_zero, List.set_cons_succ, i64_w, i32_w]
   rfl
 refine pure_ (i := 2) (N := some 72) (v := ?_) (a' := ?_) #[true, true, true, false, false, false, false, false, false, false, false] rfl rfl (any_of HT_.out (by kernel_rfl)) (fun _ _ _ h => h) (Or.inl ⟨by rfl, ?_⟩) ?_ ?_
 rotate_left
 · intro w'
   go_simp
   with_reducible rfl
 rotate_left
 · simp only [Act.put, List.setIfInBounds_toArray, List.set_cons_zero, List.set_cons_succ, i64_w, i32_w]
   rfl
 refine pure_ (i := 3) (N := some 73) (v := ?_) (a' := ?_) #[true, true, true, true, false, false, false, false, false, false, false] rfl rfl (any_of HT_.out (by kernel_rfl)) (fun _ _ _ h => h) (Or.inl ⟨by rfl, ?_⟩) ?_ ?_
 rotate_left
 · intro w'
   go_simp
   with_reducible rfl
 rotate_left
 · simp only [Act.put, List.setIfInBounds_toArray, List.set_cons_zero, List.set_cons_succ, i64_w, i32_w]
   rfl
 refine pure_ (i := 4) (N := some 74) (v := ?_) (a' := ?_) #[true, true, true, true, true, false, false, false, false, false, false] rfl rfl (any_of HT_.out (by kernel_rfl)) (fun _ _ _ h => h) (Or.inl ⟨by rfl, ?_⟩) ?_ ?_
 rotate_left
 · intro w'
   go_simp
   with_reducible rfl
 rotate_left
 · simp only [Act.put, List.setIfInBounds_toArray, List.set_cons_zero, List.set_cons_succ, i64_w, i32_w]
   rfl
 refine take_ (i := 5) (N := some 75) (v := ?_) (a' := ?_) #[true, true, true, true, true, true, false, false, false, false, false] rfl rfl (take_ofW HT_.out HW_.out (by kernel_rfl)) (fun _ _ _ h => h) (Or.inl ⟨by rfl, ?_⟩) hHeld ?_ ?_
 rotate_left
 · rintro w' s0
   go_simp
   with_reducible rfl
 rotate_left
 · simp only [Act.put, List.setIfInBounds_toArray, List.set_cons_zero, List.set_cons_succ, i64_w, i32_w]
   rfl
 refine pure_ (i := 6) (N := some 76) (v := ?_) (a' := ?_) #[true, true, true, true, true, true, true, false, false, false, false] rfl rfl (any_of HT_.out (by kernel_rfl)) (fun _ _ _ h => h) (Or.inl ⟨by rfl, ?_⟩) ?_ ?_
 rotate_left
 · intro w'
   go_simp
   with_reducible rfl
 rotate_left
 · simp only [Act.put, List.setIfInBounds_toArray, List.set_cons_zero, List.set_cons_succ, i64_w, i32_w]
   rfl
 refine pure_ (i := 7) (N := some 77) (v := ?_) (a' := ?_) #[true, true, true, true, true, true, true, true, false, false, false] rfl rfl (any_of HT_.out (by kernel_rfl)) (fun _ _ _ h => h) (Or.inl ⟨by rfl, ?_⟩) ?_ ?_
 rotate_left
 · intro w'
   go_simp
   with_reducible rfl
 rotate_left
 · simp only [Act.put, List.setIfInBounds_toArray, List.set_cons_zero, List.set_cons_succ, i64_w, i32_w]
   rfl
 refine pure_ (i := 8) (N := some 78) (v := ?_) (a' := ?_) #[true, true, true, true, true, true, true, true, true, false, false] rfl rfl (any_of HT_.out (by kernel_rfl)) (fun _ _ _ h => h) (Or.inl ⟨by rfl, ?_⟩) ?_ ?_
 rotate_left
 · intro w'
   go_simp
   with_reducible rfl
 rotate_left
 · simp only [Act.put, List.setIfInBounds_toArray, List.set_cons_zero, List.set_cons_succ, i64_w, i32_w]
   rfl
 refine pure_ (i := 9) (N := some 79) (v := ?_) (a' := ?_) #[true, true, true, true, true, true, true, true, true, true, false] rfl rfl (any_of HT_.out (by kernel_rfl)) (fun _ _ _ h => h) (Or.inl ⟨by rfl, ?_⟩) ?_ ?_
 rotate_left
 · intro w'
   go_simp
   with_reducible rfl
 rotate_left
 · simp only [Act.put, List.setIfInBounds_toArray, List.set_cons_zero, List.set_cons_succ, i64_w, i32_w]
   rfl
 have er : wrap64 (off - (wrap64 b2).tmod (wrap64 (off + 1))) = off - b2 % (off + 1) := by
  have h1 := HY.out.2
  have h2 := HO.out
  have h3 := Int.emod_nonneg b2 (show off + 1 ≠ 0 by omega)
  have h4 := Int.emod_lt_of_pos b2 (show 0 < off + 1 by omega)
  rw [w64' b2 (by omega) (by omega), w64' (off + 1) (by omega) (by omega), Int.tmod_eq_emod_of_nonneg (by omega), w64' _ (by omega) (by omega)]
 rw [er]
 clear er t4
 obtain ⟨off2, hoff2⟩ : ∃ off2, off2 = off - b2 % (off + 1) := ⟨_, rfl⟩
 rw [← hoff2]
 have HO2 := Aside0.mk (show 0 ≤ off2 ∧ off2 ≤ off by
  have h2 := HO.out
  have h3 := Int.emod_nonneg b2 (show off + 1 ≠ 0 by omega)
  have h4 := Int.emod_lt_of_pos b2 (show 0 < off + 1 by omega)
  omega)
 clear hoff2
 have k9 : wJ.cell? ⟨gc, 0, none⟩ = some (.int .i64 off) := (blk_cell BC.out 0).trans rfl
 have f9 : wJ.frozen? ⟨gc, 0, none⟩ = false := blk_frozen BC.out 0
 refine last_ (i := 10) (N := none) #[true, true, true, true, true, true, true, true, true, true, true] rfl rfl (one_of HT_.out (by kernel_rfl)) (by decide) (fun K hK => ?_)
 refine store_step (w1 := wJ.setCell ⟨gc, 0, none⟩ (.int .i64 off2)) (by rfl) rfl ?hr ?_
 (case hr => first | (go_simp; done) | (go_simp; rfl))
 refine hK.out _ _ ?_
 clear hK K
 have hzz : wD.heap.size ≤ gz := HZZ.out.1
 have hcd : wC.heap.size ≤ wD.heap.size := HGD.out
 have hgl := HLT.out
 have f1 := blk_far BA.out (p := ⟨gc, 0, none⟩) HNE.out.1.2.1 (.int .i64 off2)
 have f2 := blk_far BB.out (p := ⟨gc, 0, none⟩) HNE.out.1.2.2 (.int .i64 off2)
 have f3 := blk_set BC.out 0 (.int .i64 off2)
 have f4 := below_set (j := 0) (v := .int .i64 off2) HBB.out HNE.out.2.1.2.2
 have f5 := Kd.N_far HNA.out (p := ⟨gc, 0, none⟩) (fun k hk => by have h1 := HNE.out.2.1.2.2; have h2 := HLT.out.2.2; show k ≠ gc; omega) (.int .i64 off2)
 have f6 := Kd.F_far HCB.out (p := ⟨gc, 0, none⟩) (fun k hk => by have h1 := HNE.out.2.1.2.2; have h2 := HLT.out.2.2; have h3 := HFS.out; show k ≠ gc; omega) (.int .i64 off2)
 replace BA := Aside0.mk f1
 replace BB := Aside0.mk f2
 replace BC := Aside0.mk f3
 replace HBB := Aside0.mk f4
 replace HNA := Aside0.mk f5
 replace HCB := Aside0.mk f6
 clear f1 f2 f3 f4 f5 f6 k9 f9 hHeld hzz hcd hgl
 generalize wJ.setCell ⟨gc, 0, none⟩ (.int .i64 off2) = wK at BA BB BC HBB HNA HCB ⊢
 refine done_ (done_of HT_.out (by kernel_rfl)) ?_
 clear HT_ HW_
 have HFA := Aside0.mk (Fewer1 off L off cs (cs ++ [[b1, 17]]) ⟨HV.out, HLL.out, fewer_copy off cs [b1, 17], valid_copy HV.out (by have := HL.out; omega) b1 ⟨hb0, hb1⟩⟩)
 have HFB := Aside0.mk (Fewer1 off L off cs (cs.set 0 (row0 ++ [b1])) ⟨HV.out, HLL.out, by rw [HRW.out]; exact fewer_position HV.out b1, by rw [HRW.out]; exact valid_position HV.out (made_rows5 HM.out) b1 ⟨hb0, hb1⟩⟩)
 have HFC := Aside0.mk (Fewer1 off L off2 cs cs ⟨HV.out, HLL.out, fewer_error HV.out HO2.out.1 HO2.out.2, valid_error HV.out HO2.out.1 HO2.out.2⟩)
 have HCA := Aside0.mk (Kd.N_reads' HNA.out)
 have hcA := HCA.out.2.1
 have k0 : wK.cell? ⟨ga, 0, none⟩ = some (.int .i64 off) := (blk_cell BA.out 0).trans rfl
 have k1 : wK.cell? ⟨ga, 1, none⟩ = some (.slice (some ⟨gy, 0, none⟩) (cs.length + 1) cy) := (blk_cell BA.out 1).trans rfl
 have k2 : wK.cell? ⟨gb, 0, none⟩ = some (.int .i64 off) := (blk_cell BB.out 0).trans rfl
 have k3 : wK.cell? ⟨gb, 1, none⟩ = some (.slice (some ⟨gz, 0, none⟩) cs.length cz) := (blk_cell BB.out 1).trans rfl
 have k4 : wK.cell? ⟨gc, 0, none⟩ = some (.int .i64 off2) := (blk_cell BC.out 0).trans rfl
 have k5 : wK.cell? ⟨gc, 1, none⟩ = some (.slice (some ⟨gx, 0, none⟩) cs.length cx) := (blk_cell BC.out 1).trans rfl
 go_wp2
 clear k0 k1 k2 k3 k4 k5
 have BL := Aside0.mk (blk_new wK (.cells #[.int .i64 off, .slice (some ⟨gy, 0, none⟩) (cs.length + 1) cy, .int .i64 off, .slice (some ⟨gz, 0, none⟩) cs.length cz, .int .i64 off2, .slice (some ⟨gx, 0, none⟩) cs.length cx] 24))
 have hbb : Below wK.heap.size wK (wK.alloc (.cells #[.int .i64 off, .slice (some ⟨gy, 0, none⟩) (cs.length + 1) cy, .int .i64 off, .slice (some ⟨gz, 0, none⟩) cs.length cz, .int .i64 off2, .slice (some ⟨gx, 0, none⟩) cs.length cx] 24)) := below_alloc (Below.refl _ _) _
 have HBK := Aside0.mk (below_then HBB.out HBB.out.size hbb)
 have HC1 := Aside0.mk (show Kd.C dL _ (some ⟨gy, 0, none⟩) (cs ++ [[b1, 17]]).length (cs ++ [[b1, 17]]) by have := Kd.C_below HCA.out.2.2 hbb; exact this)
 have HC2 := Aside0.mk (show Kd.C dL _ (some ⟨gz, 0, none⟩) (cs.set 0 (row0 ++ [b1])).length (cs.set 0 (row0 ++ [b1])) by rw [List.length_set]; exact Kd.C_below (Kd.F_now HCB.out) hbb)
 have HC3 := Aside0.mk (Kd.C_below HC.out HBK.out)
 have HCK := Aside0.mk (Kd.C_below HCL.out HBK.out)
 have BSK := Aside0.mk (blk_below BS.out HBK.out)
 have HZC := Aside0.mk (show cs.length ≤ cz from hcz)
 clear hbb HNA HCB HF BA BB BC
 generalize wK.alloc (.cells #[.int .i64 off, .slice (some ⟨gy, 0, none⟩) (cs.length + 1) cy, .int .i64 off, .slice (some ⟨gz, 0, none⟩) cs.length cz, .int .i64 off2, .slice (some ⟨gx, 0, none⟩) cs.length cx] 24) = wS at BL HBK HC1 HC2 HC3 HCK BSK ⊢
 generalize wK.heap.size = gS at BL ⊢
 have HSH := Aside0.mk (show ∀ j : Nat, j < 3 → ∃ (o : Int) (As : Option Addr) (c' : Nat) (cs' : List (List Int)) (K : List Int), wS.cell? ((⟨gS, 0, none⟩ : Addr).add (j * 2)) = some (.int .i64 o) ∧ wS.cell? ⟨((⟨gS, 0, none⟩ : Addr).add (j * 2)).block, ((⟨gS, 0, none⟩ : Addr).add (j * 2)).off + 1, none⟩ = some (.slice As cs'.length c') ∧ cs'.length ≤ c' ∧ Kd.C dL wS As cs'.length cs' ∧ step_Steps.f o cs' 1 50 = some (K, 0) ∧ (∀ s ∈ K, s ∈ L) ∧ K.length ≤ 50 by
  intro j hj
  match j, hj with
  | 0, _ =>
   obtain ⟨K, q1, q2, q3⟩ := HFA.out
   exact ⟨off, _, cy, cs ++ [[b1, 17]], K, by rw [add_plain]; exact (blk_cell BL.out 0).trans rfl, by rw [add_plain]; exact (blk_cell BL.out 1).trans (by simp), by have := HCA.out.2.1; simp; omega, HC1.out, q1, q2, q3⟩
  | 1, _ =>
   obtain ⟨K, q1, q2, q3⟩ := HFB.out
   exact ⟨off, _, cz, cs.set 0 (row0 ++ [b1]), K, by rw [add_plain]; exact (blk_cell BL.out 2).trans rfl, by rw [add_plain]; exact (blk_cell BL.out 3).trans (by simp), by rw [List.length_set]; exact HZC.out, HC2.out, q1, q2, q3⟩
  | 2, _ =>
   obtain ⟨K, q1, q2, q3⟩ := HFC.out
   exact ⟨off2, _, cx, cs, K, by rw [add_plain]; exact (blk_cell BL.out 4).trans rfl, by rw [add_plain]; exact (blk_cell BL.out 5).trans (by simp), hcx, HC3.out, q1, q2, q3⟩)
 clear HFA HFB HFC HC1 HC2 HC3 BL HCA hcA
 generalize (⟨gS, 0, none⟩ : Addr) = aS at HSH ⊢
 go_loopg [85] 3 (fun gg s85 wr => ∃ j : Nat, s85 = .int .i64 j ∧ Aside0 (j ≤ 3 ∧ 3 - j ≤ gg) ∧ Aside0 (Below wS.heap.size wS wr))
 case atStart => exact ⟨0, rfl, ⟨by omega, by omega⟩, ⟨Below.refl _ _⟩⟩
 case round =>
  obtain ⟨j, rfl, HJ, HW⟩ := hrel
  by_cases hj : j < 3
  · have u1 : decide ((j : Int) < 3) = true := decide_eq_true (by omega)
    have HJJ := Aside0.mk hj
    obtain ⟨o, As, c', cs', K, q1, q2, q3, q4, q5, q6, q7⟩ := HSH.out j hj
    have p1 := (HW.out.cell (World.block_lt_of_cell? wS _ q1)).trans q1
    have p2 := (HW.out.cell (World.block_lt_of_cell? wS _ q2)).trans q2
    have HCJ := Aside0.mk (Kd.C_below q4 HW.out)
    have HST2 := Aside0.mk q5
    have HIN := Aside0.mk q6
    have HKL := Aside0.mk q7
    have hg8 : g7 + 1 < wr.heap.size := blk_lt (blk_below BSK.out HW.out)
    have k2 : wr.cell? ⟨g7 + 1, 0, none⟩ = some (.int .i64 1) := (blk_cell (blk_below BSK.out HW.out) 0).trans rfl
    have k3 : wr.cell? ⟨g7 + 1, 1, none⟩ = some (.int .i64 50) := (blk_cell (blk_below BSK.out HW.out) 1).trans rfl
    clear q1 q2 q4 q5 q6 q7
    go_wp2_with fail
    have hbx := below_alloc (Below.refl wr.heap.size wr) (.cells #[.int .i64 o, .slice As cs'.length c'] 24)
    refine (step_Steps.calls o As c' cs' 1 50 K 0 _ (Kd.C_below HCJ.out hbx) q3 HST2.out).mono ?_
    rintro e wT ⟨v, rfl, hR, hb⟩
    obtain ⟨AK, cK, rfl, hcK, hCK⟩ := Kd.R_reads hR
    have HCKK := Aside0.mk hCK
    replace HW := Aside0.mk (below_then (below_then HW.out HW.out.size hbx) (below_then HW.out HW.out.size hbx).size hb)
    clear hR hCK hb hbx p1 p2 k2 k3 hg8
    go_wp2
    go_loopg [99] K.length (fun g2 s99 wi => ∃ t : Nat, s99 = .int .i64 t ∧ Aside0 (t ≤ K.length ∧ K.length - t ≤ g2) ∧ Aside0 (Below wT.heap.size wT wi))
    case atStart => exact ⟨0, rfl, ⟨by omega, by omega⟩, ⟨Below.refl _ _⟩⟩
    case round =>
     obtain ⟨t, rfl, HT, HI⟩ := hrel
     by_cases ht : t < K.length
     · have z1 : decide ((t : Int) < (K.length : Int)) = true := decide_eq_true (by omega)
       have HTL := Aside0.mk ht
       obtain ⟨aq, eq, hxq⟩ := Kd.at_int HCKK.out (t : Int) (by omega) (by omega)
       subst eq
       have hm : rd K (t : Int) ∈ K := by unfold rd; rw [Int.toNat_natCast, List.getD_eq_getElem?_getD, List.getElem?_eq_getElem ht]; exact List.getElem_mem ht
       have hf := HIN.out _ hm
       rw [Int.toNat_natCast] at hxq
       replace hxq := (HI.out.cell (World.block_lt_of_cell? wT _ hxq)).trans hxq
       generalize rd K (t : Int) = x at hxq hf
       have HHF := Aside0.mk (show pianolalaw01_has.f 1000 L x = some true by rw [has_f L _ (by have := HLN.out; omega) 1000 (by have := HLN.out; omega), decide_eq_true hf])
       clear hm hf
       go_wp2_with fail
       refine (pianolalaw01_has.calls 1000 AL cL L x true _ (Kd.C_below HCK.out (below_then HW.out HW.out.size HI.out)) hcL HHF.out).mono ?_
       rintro e w5 ⟨rfl, hd⟩
       have hI := below_then HI.out HI.out.size hd.below
       replace HI := Aside0.mk hI
       clear hd hI hxq
       go_wp2
       go_roundg (K.length - (t + 1))
       case measure => have := HT.out; have := HTL.out; omega
       case rel => exact ⟨t + 1, by rw [w64' _ (by omega) (by have := HKL.out; have := HTL.out; omega)]; rfl, ⟨by have := HTL.out; omega, Nat.le_refl _⟩, HI⟩
     · have z1 : decide ((t : Int) < (K.length : Int)) = false := decide_eq_false (by omega)
       have HWI := Aside0.mk (below_then HW.out HW.out.size HI.out)
       go_wp2
       go_roundg (3 - (j + 1))
       case measure => have := HJ.out; have := HJJ.out; omega
       case rel => exact ⟨j + 1, by first | rfl | (rw [w64' _ (by omega) (by have := HJJ.out; omega)]; rfl), ⟨by have := HJJ.out; omega, Nat.le_refl _⟩, HWI⟩
  · have u1 : decide ((j : Int) < 3) = false := decide_eq_false (by omega)
    have HWF := Aside0.mk (below_then HB.out HB.out.size (below_then HBK.out HBK.out.size HW.out))
    go_wp2_with fail
    refine (works_calls _).mono ?_
    rintro e w7 ⟨rfl, hb⟩
    replace HWF := Aside0.mk (below_then HWF.out HWF.out.size hb)
    clear hb
    go_wp2
    go_ret
    exact ⟨rfl, HWF.out⟩
end Go.Proofs.Ytnbcdbkhpdpjgaa.H
