/- The walk of the law StepFewest: it returns true. Printed by gen_fewest.py of this session. -/
import Derived.Test.YtnbcdbkhpdpjgaaHU
import Derived.Test.YtnbcdbkhpdpjgaaHV
import Derived.Test.YtnbcdbkhpdpjgaaI6
import Derived.Test.YtnbcdbkhpdpjgaaHB
namespace Go.Proofs.Ytnbcdbkhpdpjgaa.H
open Go.RowKit Go.Proofs.YtnbcdbkhpdpjgaaW.PrintWords Go.Proofs.YtnbcdbkhpdpjgaaW.PrintLast Go.Proofs.YtnbcdbkhpdpjgaaW.PrintMore
open Go.Proofs.Ytnbcdbkhpdpjgaa.QA
set_option linter.unusedVariables false
set_option linter.unusedSimpArgs false

/-- The cells of five bytes. -/
def five (m0 m1 m2 m3 m4 : Int) : Array Value := #[.int .u8 m0, .int .u8 m1, .int .u8 m2, .int .u8 m3, .int .u8 m4]
theorem five_at (m0 m1 m2 m3 m4 : Int) (h : isByte m0 ∧ isByte m1 ∧ isByte m2 ∧ isByte m3 ∧ isByte m4) (k : Nat) (hk : k < 5) : ∃ mv, (five m0 m1 m2 m3 m4)[k]? = some (.int .u8 mv) ∧ isByte mv := by
 match k, hk with
 | 0, _ => exact ⟨m0, rfl, h.1⟩
 | 1, _ => exact ⟨m1, rfl, h.2.1⟩
 | 2, _ => exact ⟨m2, rfl, h.2.2.1⟩
 | 3, _ => exact ⟨m3, rfl, h.2.2.2.1⟩
 | 4, _ => exact ⟨m4, rfl, h.2.2.2.2⟩
def few_T6 : Bool × List (List Nat × List Nat) := (true, [([], []), ([0], [0]), ([1], [1]), ([2], [2]), ([], []), ([3, 4], [3, 4]), ([5], [5]), ([], []), ([7], [7]), ([8], [8]), ([9], [9]), ([6, 10], [6, 10]), ([3, 4, 0, 1, 2, 3, 4, 5, 6, 7, 8, 9, 10, 11], [3, 4]), ([12, 11, 0, 1, 2, 3, 4, 5, 6, 7, 8, 9, 10, 11], [11, 12])])
def few_B6 : List Nat := [0, 1, 3, 7, 0, 31, 63, 0, 128, 384, 896, 2047, 4095, 8191]
theorem few_tab6 : rtab .any (opsOf Try.f9 6) = few_T6 := by kernel_rfl
theorem few_bits6 : waitsOk few_T6.2 few_B6 = true := by kernel_rfl
theorem shl_len : ∀ n : Nat, n < 13 → wrap64 (2 ^ min n 64) = ((2 ^ n : Nat) : Int) := by decide +kernel
theorem bit5 : ∀ m : Nat, m < 32 → ∀ k : Nat, k < 5 → ((Go.bits .and .i64 ((m : Int) / 2 ^ min k 64) 1 == 1) = m.testBit k) := by decide +kernel

set_option maxHeartbeats 16000000 in
set_option maxRecDepth 100000 in
theorem stepFewest_calls (a0 a1 a2 a3 a4 : Int) (A : Option Addr) (c : Nat) (l : List S92) (m0 m1 m2 m3 m4 : Int) (b2 : Int) (w : World) (hr : Kd.C k92 w A l.length l) (hc : l.length ≤ c) (hok : mdOk a0 a1 a2 a3 a4 l) (hby : isByte m0 ∧ isByte m1 ∧ isByte m2 ∧ isByte m3 ∧ isByte m4) (h2 : isByte b2) :
  Calls Try.prog 9 #[.agg #[.int .u8 a0, .int .u8 a1, .int .u8 a2, .int .u8 a3, .int .u8 a4, .slice A l.length c], .agg #[.int .u8 m0, .int .u8 m1, .int .u8 m2, .int .u8 m3, .int .u8 m4], .int .u8 b2] w fun e w' => e = .returned (.bool true) ∧ Below w.heap.size w w' := by
 have hu24 := Try.underlying24
 have hu59 := Try.underlying59
 have hu46 := Try.underlying46
 obtain ⟨off, cs, s0, os, rs, hmd, hM⟩ := made_true a0 a1 a2 a3 a4 l hok
 unfold isByte at h2
 have HM := Aside0.mk hM
 have HMD := Aside0.mk hmd
 have HR := Aside0.mk hr
 have HBY := Aside0.mk hby
 have HY := Aside0.mk h2
 have HL := Aside0.mk hM.hc
 clear hmd hr hM hok h2 hby
 go_enter Try.func9, Try.ntmps9
 go_wp2_with fail

 refine (pianolalaw01_Master_made.calls a0 a1 a2 a3 a4 A c l off cs s0 os rs _ (Kd.C_alloc (Kd.C_alloc HR.out _) _) hc HMD.out).mono ?_
 rintro e w1 ⟨v1, v2, v3, rfl, hS, hO, hR, hb⟩
 obtain ⟨gx, cx, rfl, _, _, _⟩ := Kd.S_form hS (by have := HL.out; omega)
 have B5 := Aside0.mk (blk_below (blk_two w _ _) hb)
 have HB := Aside0.mk (below_then (below_alloc (below_alloc (Below.refl w.heap.size w) _) _) (by simp only [World.size_alloc]; omega) hb)
 have HS := Aside0.mk (Kd.S_lower (base' := w.heap.size) (Kd.S_mono hS (fun _ _ => trivial) : Kd.S dL 34 w1 _ (fun _ => True) _ _) (by simp only [World.size_alloc]; omega))
 clear hS hO hR hb
 go_upto_region 2 with fail
 have BX := Aside0.mk (blk_new w1 (.cells #[.int .i64 off, .slice (some ⟨gx, 0, none⟩) cs.length cx] 24))
 replace HS := Aside0.mk (Kd.S_alloc HS.out (.cells #[.int .i64 off, .slice (some ⟨gx, 0, none⟩) cs.length cx] 24))
 replace HB := Aside0.mk (below_alloc HB.out (.cells #[.int .i64 off, .slice (some ⟨gx, 0, none⟩) cs.length cx] 24))
 replace B5 := Aside0.mk (blk_alloc B5.out (.cells #[.int .i64 off, .slice (some ⟨gx, 0, none⟩) cs.length cx] 24))
 generalize w1.alloc (.cells #[.int .i64 off, .slice (some ⟨gx, 0, none⟩) cs.length cx] 24) = w2 at BX HS HB B5 ⊢
 generalize w1.heap.size = g7 at BX ⊢
 have k1 : w2.cell? ⟨g7, 1, none⟩ = some (.slice (some ⟨gx, 0, none⟩) cs.length cx) := (blk_cell BX.out 1).trans rfl
 have HPM := Aside0.mk (Made.posM HM.out)
 obtain ⟨ac, Ac, cc, ec, hxc, hcc, hCc⟩ := at_L1 (Kd.S_reads' HS.out).2.2 (0 : Int) (by omega) (by have := HL.out; omega)
 cases ec
 rw [add_plain] at hxc
 replace hxc : w2.cell? ⟨gx, 0, none⟩ = _ := hxc
 obtain ⟨len0, hl0⟩ : ∃ len0, len0 = (cs.getD 0 []).length := ⟨_, rfl⟩
 have hl1 : (rd_L1 cs (0 : Int)).length = len0 := by unfold rd_L1; rw [hl0]; rfl
 have hl5 : 1 ≤ len0 ∧ len0 ≤ 5 := by
  have h7 := (HM.out.inn 0 (by have := HL.out; omega)).2.1
  omega
 rw [hl1] at hxc
 have HLE := Aside0.mk (And.intro hl0 hl5)
 have n0 : 0 < cs.length := by have := HL.out; omega
 clear hl1 hl0 hl5 hcc hCc
 go_wp2
 clear k1 hxc n0
 go_loopg [38] len0 (fun gg s38 wr => ∃ (k : Nat) (cs' : List (List Int)), s38 = .int .i64 k ∧ Aside0 (k ≤ len0 ∧ len0 - k ≤ gg) ∧ Aside0 (PosM cs cs' k) ∧ Aside0 (Kd.S dL 34 wr w.heap.size (fun _ => True) (.slice (some ⟨gx, 0, none⟩) cs'.length cx) cs') ∧ Aside0 (wr.heap[g7]? = some (.cells #[.int .i64 off, .slice (some ⟨gx, 0, none⟩) cs'.length cx] 24 (0, 0))) ∧ Aside0 (wr.heap[w.heap.size + 1]? = some (.cells (five m0 m1 m2 m3 m4) 67 (0, 0))) ∧ Aside0 (Below w.heap.size w wr))
 case atStart => exact ⟨0, cs, rfl, ⟨by omega, by omega⟩, HPM, HS, BX, B5, HB⟩
 case round =>
  clear HPM HS BX B5 HB
  obtain ⟨k, cs', rfl, HK, HPM, HS, BX, B5, HB⟩ := hrel
  by_cases hk : k < len0
  · have u1 : decide ((k : Int) < (len0 : Int)) = true := decide_eq_true (by omega)
    have u2 : decide ((k : Int) < 5) = true := decide_eq_true (by have := HLE.out; omega)
    have n5 : k < 5 := by have := HLE.out; omega
    have HKK := Aside0.mk hk
    go_upto_region 6 with fail
    obtain ⟨mv, hmv, hmb⟩ := five_at m0 m1 m2 m3 m4 HBY.out k n5
    have HMV := Aside0.mk hmb
    replace HS := Aside0.mk (Kd.S_below HS.out (below_drew (Below.refl wr.heap.size wr)))
    replace HB := Aside0.mk (below_drew1 HB.out)
    replace BX := Aside0.mk (show wr.drew.heap[g7]? = _ from BX.out)
    replace B5 := Aside0.mk (show wr.drew.heap[w.heap.size + 1]? = _ from B5.out)
    have hxm : wr.drew.cell? ⟨w.heap.size + 1, k, none⟩ = some (.int .u8 mv) := (blk_cell B5.out k).trans hmv
    obtain ⟨gu, cu, q1, q2, q3, q4, ⟨cells, q5⟩, q6⟩ := put_at HS.out 0 k (by have := HPM.out.1; have := HL.out; omega) (by have := HPM.out.2.1 0; have := HKK.out; have := HLE.out.1; omega)
    obtain ⟨x0, hx0⟩ : ∃ x0, x0 = (cs'.getD 0 []).getD k 0 := ⟨_, rfl⟩
    rw [← hx0] at q2
    have hx1 := HPM.out.2.2 0 k (by have := HPM.out.2.1 0; have := HKK.out; have := HLE.out.1; omega)
    rw [← hx0] at hx1
    have hlr : (cs'.getD 0 []).length = len0 := by have := HPM.out.2.1 0; have := HLE.out.1; omega
    rw [hlr] at q1
    have HXX := Aside0.mk (And.intro hx0 hx1)
    have HQ := Aside0.mk (And.intro q4 (And.intro q5 q6))
    have n1 : 0 < cs'.length := by have := HPM.out.1; have := HL.out; omega
    clear q4 q5 q6 hx0 hx1 hlr hmv hmb u1 u2
    have n6 : ((k : Int) < 5) = True := eq_true (by omega)
    refine start_ (n := 14) (S := fun w' => w'.cell? ⟨g7, 1, none⟩ = some (.slice (some ⟨gx, 0, none⟩) cs'.length cx) ∧ w'.cell? ⟨gx, 0, none⟩ = some (.slice (some ⟨gu, 0, none⟩) len0 cu) ∧ w'.cell? ⟨gu, k, none⟩ = some (.int .i64 x0) ∧ w'.cell? ⟨w.heap.size + 1, k, none⟩ = some (.int .u8 mv)) (ds := [13]) #[false, false, false, false, false, false, false, false, false, false, false, false, false, false] (by kernel_rfl) rfl rfl ⟨(blk_cell BX.out 1).trans rfl, q1, q2, hxm⟩ (fun hHeld => ?_)
    refine with_tabW few_tab6 few_bits6 (fun HT_ HW_ => ?_)
    generalize wr.drew = wB at HS HB BX B5 HQ q1 q2 q3 hxm hHeld ⊢
    refine pure_ (i := 0) (N := some 43) (v := ?_) (a' := ?_) #[true, false, false, false, false, false, false, false, false, false, false, false, false, false] rfl rfl (any_of HT_.out (by kernel_rfl)) (fun _ _ _ h => h) (Or.inl ⟨by rfl, ?_⟩) ?_ ?_
    rotate_left
    · intro w'
      go_simp
      with_reducible rfl
    rotate_left
    · simp only [Act.put, List.setIfInBounds_toArray, List.set_cons_zero, List.set_cons_succ, i64_w, i32_w]
      rfl
    refine take_ (i := 1) (N := some 44) (v := ?_) (a' := ?_) #[true, true, false, false, false, false, false, false, false, false, false, false, false, false] rfl rfl (take_ofW HT_.out HW_.out (by kernel_rfl)) (fun _ _ _ h => h) (Or.inl ⟨by rfl, ?_⟩) hHeld ?_ ?_
    rotate_left
    · rintro w' ⟨s0, s1, s2, s3⟩
      go_simp
      with_reducible rfl
    rotate_left
    · simp only [Act.put, List.setIfInBounds_toArray, List.set_cons_zero, List.set_cons_succ, i64_w, i32_w]
      rfl
    refine pure_ (i := 2) (N := some 45) (v := ?_) (a' := ?_) #[true, true, true, false, false, false, false, false, false, false, false, false, false, false] rfl rfl (any_of HT_.out (by kernel_rfl)) (fun _ _ _ h => h) (Or.inl ⟨by rfl, ?_⟩) ?_ ?_
    rotate_left
    · intro w'
      go_simp
      with_reducible rfl
    rotate_left
    · simp only [Act.put, List.setIfInBounds_toArray, List.set_cons_zero, List.set_cons_succ, i64_w, i32_w]
      rfl
    refine take_ (i := 3) (N := some 46) (v := ?_) (a' := ?_) #[true, true, true, true, false, false, false, false, false, false, false, false, false, false] rfl rfl (take_ofW HT_.out HW_.out (by kernel_rfl)) (fun _ _ _ h => h) (Or.inl ⟨by rfl, ?_⟩) hHeld ?_ ?_
    rotate_left
    · rintro w' ⟨s0, s1, s2, s3⟩
      go_simp
      with_reducible rfl
    rotate_left
    · simp only [Act.put, List.setIfInBounds_toArray, List.set_cons_zero, List.set_cons_succ, i64_w, i32_w]
      rfl
    refine pure_ (i := 4) (N := some 47) (v := ?_) (a' := ?_) #[true, true, true, true, true, false, false, false, false, false, false, false, false, false] rfl rfl (any_of HT_.out (by kernel_rfl)) (fun _ _ _ h => h) (Or.inl ⟨by rfl, ?_⟩) ?_ ?_
    rotate_left
    · intro w'
      go_simp
      with_reducible rfl
    rotate_left
    · simp only [Act.put, List.setIfInBounds_toArray, List.set_cons_zero, List.set_cons_succ, i64_w, i32_w]
      rfl
    refine pure_ (i := 5) (N := some 48) (v := ?_) (a' := ?_) #[true, true, true, true, true, true, false, false, false, false, false, false, false, false] rfl rfl (any_of HT_.out (by kernel_rfl)) (fun _ _ _ h => h) (Or.inl ⟨by rfl, ?_⟩) ?_ ?_
    rotate_left
    · intro w'
      go_simp
      with_reducible rfl
    rotate_left
    · simp only [Act.put, List.setIfInBounds_toArray, List.set_cons_zero, List.set_cons_succ, i64_w, i32_w]
      rfl
    refine take_ (i := 6) (N := some 49) (v := ?_) (a' := ?_) #[true, true, true, true, true, true, true, false, false, false, false, false, false, false] rfl rfl (take_ofW HT_.out HW_.out (by kernel_rfl)) (fun _ _ _ h => h) (Or.inl ⟨by rfl, ?_⟩) hHeld ?_ ?_
    rotate_left
    · rintro w' ⟨s0, s1, s2, s3⟩
      go_simp
      with_reducible rfl
    rotate_left
    · simp only [Act.put, List.setIfInBounds_toArray, List.set_cons_zero, List.set_cons_succ, i64_w, i32_w]
      rfl
    refine pure_ (i := 7) (N := some 50) (v := ?_) (a' := ?_) #[true, true, true, true, true, true, true, true, false, false, false, false, false, false] rfl rfl (any_of HT_.out (by kernel_rfl)) (fun _ _ _ h => h) (Or.inl ⟨by rfl, ?_⟩) ?_ ?_
    rotate_left
    · intro w'
      go_simp
      with_reducible rfl
    rotate_left
    · simp only [Act.put, List.setIfInBounds_toArray, List.set_cons_zero, List.set_cons_succ, i64_w, i32_w]
      rfl
    refine pure_ (i := 8) (N := some 51) (v := ?_) (a' := ?_) #[true, true, true, true, true, true, true, true, true, false, false, false, false, false] rfl rfl (any_of HT_.out (by kernel_rfl)) (fun _ _ _ h => h) (Or.inl ⟨by rfl, ?_⟩) ?_ ?_
    rotate_left
    · intro w'
      go_simp
      with_reducible rfl
    rotate_left
    · simp only [Act.put, List.setIfInBounds_toArray, List.set_cons_zero, List.set_cons_succ, i64_w, i32_w]
      rfl
    refine take_ (i := 9) (N := some 52) (v := ?_) (a' := ?_) #[true, true, true, true, true, true, true, true, true, true, false, false, false, false] rfl rfl (take_ofW HT_.out HW_.out (by kernel_rfl)) (fun _ _ _ h => h) (Or.inl ⟨by rfl, ?_⟩) hHeld ?_ ?_
    rotate_left
    · rintro w' ⟨s0, s1, s2, s3⟩
      go_simp
      with_reducible rfl
    rotate_left
    · simp only [Act.put, List.setIfInBounds_toArray, List.set_cons_zero, List.set_cons_succ, i64_w, i32_w]
      rfl
    refine pure_ (i := 10) (N := some 53) (v := ?_) (a' := ?_) #[true, true, true, true, true, true, true, true, true, true, true, false, false, false] rfl rfl (any_of HT_.out (by kernel_rfl)) (fun _ _ _ h => h) (Or.inl ⟨by rfl, ?_⟩) ?_ ?_
    rotate_left
    · intro w'
      go_simp
      with_reducible rfl
    rotate_left
    · simp only [Act.put, List.setIfInBounds_toArray, List.set_cons_zero, List.set_cons_succ, i64_w, i32_w]
      rfl
    refine pure_ (i := 11) (N := some 54) (v := ?_) (a' := ?_) #[true, true, true, true, true, true, true, true, true, true, true, true, false, false] rfl rfl (any_of HT_.out (by kernel_rfl)) (fun _ _ _ h => h) (Or.inl ⟨by rfl, ?_⟩) ?_ ?_
    rotate_left
    · intro w'
      go_simp
      with_reducible rfl
    rotate_left
    · simp only [Act.put, List.setIfInBounds_toArray, List.set_cons_zero, List.set_cons_succ, i64_w, i32_w]
      rfl
    refine pure_ (i := 12) (N := some 55) (v := ?_) (a' := ?_) #[true, true, true, true, true, true, true, true, true, true, true, true, true, false] rfl rfl (any_of HT_.out (by kernel_rfl)) (fun _ _ _ h => h) (Or.inl ⟨by rfl, ?_⟩) ?_ ?_
    rotate_left
    · intro w'
      go_simp
      with_reducible rfl
    rotate_left
    · simp only [Act.put, List.setIfInBounds_toArray, List.set_cons_zero, List.set_cons_succ, i64_w, i32_w]
      rfl
    have er : wrap64 (x0 + wrap64 mv) = x0 + mv := by
     have h1 := HMV.out
     have h3 := HXX.out.2
     have h8 := HLE.out
     have h9 := HKK.out
     unfold isByte at h1
     rw [w64' mv (by omega) (by omega), w64' _ (by omega) (by omega)]
    rw [er]
    clear er
    refine last_ (i := 13) (N := none) #[true, true, true, true, true, true, true, true, true, true, true, true, true, true] rfl rfl (one_of HT_.out (by kernel_rfl)) (by decide) (fun K hK => ?_)
    refine store_step (w1 := wB.setCell ⟨gu, k, none⟩ (.int .i64 (x0 + mv))) (by rfl) rfl ?hr ?_
    (case hr => first | (go_simp; done) | (go_simp; rfl))
    refine hK.out _ _ ?_
    clear hK K
    have f1 := HQ.out.2.2 (x0 + mv)
    have f2 := below_set (j := k) (v := .int .i64 (x0 + mv)) HB.out HQ.out.1
    have f3 := blk_far BX.out (p := ⟨gu, k, none⟩) (blk_ne BX.out HQ.out.2.1 (by decide)) (.int .i64 (x0 + mv))
    have f5 := blk_far B5.out (p := ⟨gu, k, none⟩) (blk_ne B5.out HQ.out.2.1 (by decide)) (.int .i64 (x0 + mv))
    have f4 := PosM.put HPM.out 0 k n1 (x0 + mv) (by have h1 := HMV.out; unfold isByte at h1; rw [← HXX.out.1]; omega) (by have h1 := HMV.out; unfold isByte at h1; rw [← HXX.out.1]; omega)
    replace HS := Aside0.mk f1
    replace HB := Aside0.mk f2
    replace BX := Aside0.mk f3
    replace B5 := Aside0.mk f5
    have HPN := Aside0.mk f4
    clear f1 f2 f3 f4 f5 q1 q2 q3 hxm hHeld HQ
    generalize wB.setCell ⟨gu, k, none⟩ (.int .i64 (x0 + mv)) = wC at HS HB BX B5 ⊢
    refine done_ (done_of HT_.out (by kernel_rfl)) ?_
    clear HT_ HW_ n1 n6
    go_wp2
    go_roundg (len0 - (k + 1))
    case measure => have := HK.out; have := HKK.out; omega
    case rel => exact ⟨k + 1, _, by first | rfl | (rw [w64' _ (by omega) (by have := HKK.out; have := HLE.out; omega)]; rfl), ⟨by have := HKK.out; omega, Nat.le_refl _⟩, HPN, ⟨by rw [List.length_set]; exact HS.out⟩, ⟨by rw [List.length_set]; exact BX.out⟩, B5, HB⟩
  · have u1 : decide ((k : Int) < (len0 : Int)) = false := decide_eq_false (by omega)
    have HV := Aside0.mk (HPM.out.valid HM.out.valid (by have := HK.out; have := HLE.out; omega))
    have HLC := Aside0.mk HPM.out.1
    have HO := Aside0.mk HM.out.ho
    have hlr : (rd_L1 cs' 0).length = len0 := by have := HPM.out.2.1 0; have := HLE.out.1; unfold rd_L1; show (cs'.getD 0 []).length = len0; omega
    have HLR := Aside0.mk hlr
    clear hlr
    go_upto_region 9 with fail
    have es : wrap64 (1 + (wrap64 b2).tmod 45) = 1 + b2 % 45 := by
     have h1 := HY.out
     rw [w64' b2 (by omega) (by omega), Int.tmod_eq_emod_of_nonneg (by omega), w64' _ (by omega) (by omega)]
    rw [es]
    obtain ⟨s, hs⟩ : ∃ s, s = 1 + b2 % 45 := ⟨_, rfl⟩
    rw [← hs]
    have HSS := Aside0.mk (show 1 ≤ s ∧ s ≤ 45 by omega)
    clear es hs
    have HC := Aside0.mk (Kd.S_reads' HS.out).2.2
    have hcx := (Kd.S_reads' HS.out).2.1
    have hi0 : 0 ≤ (0 : Int) ∧ (0 : Int) < cs'.length := by have := HLC.out; have := HL.out; omega
    have HI0 := Aside0.mk hi0
    have HOF := Aside0.mk (offsets_of HV.out (0 : Int) s hi0 (by have := HSS.out; omega))
    have HVL := Aside0.mk (valid_row HV.out (0 : Int) hi0)
    have HVN := Aside0.mk (fun m => verify_nums HV.out (0 : Int) s hi0 (by have := HSS.out; omega) m)
    obtain ⟨C, nC, hCf, hC1, hC2⟩ : ∃ C nC, step_Clash.f off cs' 0 s = some (C, nC) ∧ (allowsB off s (rd_L1 cs' 0) = true → C = [] ∧ nC = 8) ∧ (allowsB off s (rd_L1 cs' 0) = false → nC = 0 ∧ C.Sublist (numsTo (rd_L1 cs' 0).length) ∧ C ≠ [] ∧ excl off s (rd_L1 cs' 0) C = true ∧ ∀ sub, sub.Sublist (numsTo (rd_L1 cs' 0).length) → sub ≠ [] → excl off s (rd_L1 cs' 0) sub = true → C.length ≤ sub.length) := by
     cases hA : allowsB off s (rd_L1 cs' 0) with
     | true => exact ⟨[], 8, clash_none HV.out 0 s hi0 (by have := HSS.out; omega) hA, fun _ => ⟨rfl, rfl⟩, fun h => by cases h⟩
     | false =>
      obtain ⟨C, c1, c2⟩ := clash_some HV.out 0 s hi0 (by have := HSS.out; omega) hA
      exact ⟨C, 0, c1, (fun h => by cases h), fun _ => ⟨rfl, c2⟩⟩
    have HAP := Aside0.mk (allows_pos off s (rd_L1 cs' 0) (by have := HSS.out; omega) HO.out.1 (fun e0 => by have := HVL.out.1.1; rw [e0] at this; simp at this))
    have HCF := Aside0.mk hCf
    have HCT := Aside0.mk hC1
    have HCN := Aside0.mk hC2
    clear hCf hC1 hC2 HPM HK u1 hk
    obtain ⟨l0, hl0⟩ : ∃ l0, l0 = rd_L1 cs' (0 : Int) := ⟨_, rfl⟩
    rw [← hl0] at HLR HOF HVL HVN HCT HCN HAP
    have HL0 := Aside0.mk hl0
    clear hl0 hi0
    obtain ⟨O, hOo⟩ : ∃ O, O = offsOf off s l0 := ⟨_, rfl⟩
    rw [← hOo] at HOF HAP
    clear hOo
    replace HB := Aside0.mk HB.out
    have k0 : wr.cell? ⟨g7, 0, none⟩ = some (.int .i64 off) := (blk_cell BX.out 0).trans rfl
    have k1 : wr.cell? ⟨g7, 1, none⟩ = some (.slice (some ⟨gx, 0, none⟩) cs'.length cx) := (blk_cell BX.out 1).trans rfl
    clear B5 HS HBY
    go_wp2_with fail
    refine (step_Offsets.calls off (some ⟨gx, 0, none⟩) cx cs' 0 s O 0 _ HC.out hcx HOF.out).mono ?_
    rintro e w4 ⟨v, rfl, hR, hb⟩
    obtain ⟨AO, cO, rfl, _, _⟩ := Kd.R_reads hR
    replace HC := Aside0.mk (Kd.C_below HC.out hb)
    replace HB := Aside0.mk (below_then HB.out HB.out.size hb)
    replace BX := Aside0.mk (blk_below BX.out hb)
    clear hR hb k0 k1
    have k0 : w4.cell? ⟨g7, 0, none⟩ = some (.int .i64 off) := (blk_cell BX.out 0).trans rfl
    have k1 : w4.cell? ⟨g7, 1, none⟩ = some (.slice (some ⟨gx, 0, none⟩) cs'.length cx) := (blk_cell BX.out 1).trans rfl
    go_wp2_with fail
    refine (step_Clash.calls off (some ⟨gx, 0, none⟩) cx cs' 0 s C nC _ HC.out hcx HCF.out).mono ?_
    rintro e w5 ⟨v, rfl, hR, hb⟩
    obtain ⟨AK, cK, rfl, hcK, hCK⟩ := Kd.R_reads hR
    have HCK := Aside0.mk hCK
    replace HC := Aside0.mk (Kd.C_below HC.out hb)
    replace HB := Aside0.mk (below_then HB.out HB.out.size hb)
    replace BX := Aside0.mk (blk_below BX.out hb)
    clear hR hCK hb k0 k1
    cases hA : allowsB off s l0 with
    | true =>
      obtain ⟨rfl, rfl⟩ := HCT.out hA
      have z1 : decide ((0 : Int) < (O.length : Int)) = true := by have h := HAP.out; rw [hA] at h; exact decide_eq_true (by have := of_decide_eq_true h.symm; omega)
      have z2 : 0 < O.length := by have h := HAP.out; rw [hA] at h; exact of_decide_eq_true h.symm
      clear hA
      go_wp2_with fail
      refine (works_calls _).mono ?_
      rintro e w7 ⟨rfl, hb⟩
      replace HB := Aside0.mk (below_then HB.out HB.out.size hb)
      clear hb
      go_wp2
      go_ret
      exact ⟨rfl, HB.out⟩
    | false =>
      obtain ⟨hn0, hsub, hne, hex, hmin⟩ := HCN.out hA
      subst hn0
      have hol : O.length = 0 := by have h := HAP.out; rw [hA] at h; have := of_decide_eq_false h.symm; omega
      have z1 : decide ((0 : Int) < (O.length : Int)) = false := decide_eq_false (by omega)
      have z2 : ((C.length : Int) == 0) = false := beq_eq_false_iff_ne.mpr (fun e0 => hne (List.length_eq_zero_iff.1 (by omega)))
      have HVC := Aside0.mk (show step_Verify.f 3000 off cs' 0 s C = some 0 by rw [HVN.out C hsub hne, if_pos hex])
      have HMN := Aside0.mk hmin
      have k0 : w5.cell? ⟨g7, 0, none⟩ = some (.int .i64 off) := (blk_cell BX.out 0).trans rfl
      have k1 : w5.cell? ⟨g7, 1, none⟩ = some (.slice (some ⟨gx, 0, none⟩) cs'.length cx) := (blk_cell BX.out 1).trans rfl
      clear hA hsub hne hex hmin HCT HCN
      go_wp2_with fail
      refine (step_Verify.calls 3000 off (some ⟨gx, 0, none⟩) cx cs' 0 s AK cK C 0 _ HC.out hcx HCK.out hcK HVC.out).mono ?_
      rintro e w6 ⟨rfl, hb⟩
      replace HC := Aside0.mk (Kd.C_below HC.out hb)
      replace HB := Aside0.mk (below_then HB.out HB.out.size hb)
      replace BX := Aside0.mk (blk_below BX.out hb)
      clear hb k0 k1 z1 z2 hol HVC HCK hcK
      have k1 : w6.cell? ⟨g7, 1, none⟩ = some (.slice (some ⟨gx, 0, none⟩) cs'.length cx) := (blk_cell BX.out 1).trans rfl
      obtain ⟨ac, Ac, cc, ec, hxc, hcc, hCc⟩ := at_L1 HC.out (0 : Int) (by omega) (by have := HI0.out; omega)
      cases ec
      rw [add_plain] at hxc
      replace hxc : w6.cell? ⟨gx, 0, none⟩ = _ := hxc
      rw [← HL0.out] at hxc hcc hCc
      have HCC := Aside0.mk hCc
      have n0 : 0 < cs'.length := by have := HI0.out; omega
      clear hCc
      have HLN := Aside0.mk (show l0.length ≤ 5 ∧ 1 ≤ l0.length by have h1 := HLR.out; have h2 := HLE.out; omega)
      go_wp2
      clear hxc k1 n0
      obtain ⟨PW, hPW⟩ : ∃ PW, PW = 2 ^ l0.length := ⟨_, rfl⟩
      have hp0 : 1 ≤ PW := by rw [hPW]; exact Nat.one_le_two_pow
      have hp5 : PW ≤ 32 := by rw [hPW]; exact Nat.pow_le_pow_right (n := 2) (by decide) HLN.out.1
      have HPW := Aside0.mk (And.intro hp0 (And.intro hp5 hPW))
      clear hp0 hp5 hPW
      go_loopg [18] PW (fun gg v18 wr => ∃ m : Nat, v18 = .int .i64 m ∧ Aside0 ((1 ≤ m ∧ m ≤ PW) ∧ PW - m ≤ gg) ∧ Aside0 (Below w6.heap.size w6 wr))
      case atStart => exact ⟨1, rfl, ⟨⟨by omega, HPW.out.1⟩, by omega⟩, ⟨Below.refl _ _⟩⟩
      case round =>
       obtain ⟨m, rfl, HMM, HW⟩ := hrel
       by_cases hm : m < PW
       · have u0 : decide ((m : Int) < wrap64 (2 ^ min l0.length 64)) = true := by rw [shl_len _ (by have := HLN.out; omega), ← HPW.out.2.2]; exact decide_eq_true (by omega)
         have HMP := Aside0.mk hm
         clear hm
         go_wp2
         clear u0
         generalize wr = wS at HW ⊢
         go_loopg [19, 115] l0.length (fun g2 v19 s115 wi => ∃ k : Nat, s115 = .int .i64 k ∧ Aside0 (k ≤ l0.length ∧ l0.length - k ≤ g2) ∧ Aside0 (Kd.R dN 3 wi wS.heap.size (fun _ => True) v19 (maskNums k m)) ∧ Aside0 (Below wS.heap.size wS wi))
         case atStart => exact ⟨0, rfl, ⟨by omega, by omega⟩, ⟨Kd.R_nil _ _ _ _ _⟩, ⟨Below.refl _ _⟩⟩
         case round =>
          obtain ⟨k, rfl, HK, HSM, HI⟩ := hrel
          by_cases hk : k < l0.length
          · have u1 : decide ((k : Int) < (l0.length : Int)) = true := decide_eq_true (by omega)
            have HKK := Aside0.mk hk
            have hb8 := bit5 m (by have := HMP.out; have := HPW.out; omega) k (by have := HLN.out; omega)
            have HB8 := Aside0.mk hb8
            have hs8 := mask_succ k m
            have HS8 := Aside0.mk hs8
            clear hb8 hs8
            cases hbit : m.testBit k with
            | true =>
              have u2 : (Go.bits .and .i64 ((m : Int) / 2 ^ min k 64) 1 == 1) = true := HB8.out.trans hbit
              have HBT := Aside0.mk hbit
              clear hbit
              have hml := mask_len k m
              have HML := Aside0.mk hml
              clear hml
              go_wp2_with ((with_reducible refine gate_builtin (b := .append) (xs := #[.tmp 123, .tmp 125]) rfl ?_); at_builtin; refine Kd.R_append dN (w0 := wS) wS.heap.size rfl (.tmp 123) (.tmp 125) 34 3 (.int .i64 0) 8 rfl Try.underlying34 info3 rfl (by decide) (by omega) u19 (maskNums k m) (k : Int) [.int .i64 (k : Int)] (fun _ => True) (fun _ => False) rfl rfl ?aP (fun _ hk => hk.elim) ?aF ?aO ?aB ?aS ?aL ?_; (case aP => exact rfl); (case aB => exact HI.out); (case aF => exact fun _ _ => trivial); (case aO => exact Kd.R_mono HSM.out (fun _ _ => by first | trivial | exact ⟨trivial, id⟩)); (case aS => exact HI.out.size); (case aL => have h1 := HML.out; have h2 := HKK.out; have h3 := HLN.out; omega); intro v5 w5 ho_ hb_ hg_ hat_; have HSN := Aside0.mk ho_; have HIN := Aside0.mk hb_; clear ho_ hb_ hg_ hat_)
              go_roundg (l0.length - (k + 1))
              case measure => have := HK.out; have := HKK.out; omega
              case rel => exact ⟨k + 1, by rw [w64' _ (by omega) (by have := HLN.out; have := HKK.out; omega)]; rfl, ⟨by have := HKK.out; omega, Nat.le_refl _⟩, ⟨by rw [HS8.out, if_pos HBT.out]; exact HSN.out⟩, HIN⟩
            | false =>
              have u2 : (Go.bits .and .i64 ((m : Int) / 2 ^ min k 64) 1 == 1) = false := HB8.out.trans hbit
              have HBT := Aside0.mk hbit
              clear hbit
              go_wp2
              go_roundg (l0.length - (k + 1))
              case measure => have := HK.out; have := HKK.out; omega
              case rel => exact ⟨k + 1, by rw [w64' _ (by omega) (by have := HLN.out; have := HKK.out; omega)]; rfl, ⟨by have := HKK.out; omega, Nat.le_refl _⟩, ⟨by rw [HS8.out, if_neg (by rw [HBT.out]; simp), List.append_nil]; exact HSM.out⟩, HI⟩
          · have u1 : decide ((k : Int) < (l0.length : Int)) = false := decide_eq_false (by omega)
            have hke : k = l0.length := by have := HK.out; omega
            subst hke
            have HWI := Aside0.mk (below_then HW.out HW.out.size HI.out)
            obtain ⟨AM, cM, rfl, hcM, hCM⟩ := Kd.R_reads HSM.out
            obtain ⟨M, hM⟩ : ∃ M, M = maskNums l0.length m := ⟨_, rfl⟩
            have HMI := Aside0.mk (show ∀ x ∈ M, 0 ≤ x ∧ x < (l0.length : Int) by rw [hM]; exact mask_in _ _)
            have HML := Aside0.mk (show M.length ≤ l0.length by rw [hM]; exact mask_len _ _)
            have hMS : M.Sublist (numsTo l0.length) := by rw [hM]; exact mask_sub _ _
            have hMN : M ≠ [] := by rw [hM]; exact mask_ne _ _ HMM.out.1.1 (by rw [← HPW.out.2.2]; exact HMP.out)
            have HVE := Aside0.mk (HVN.out M hMS hMN)
            have HME := Aside0.mk (HMN.out M hMS hMN)
            have HXT := Aside0.mk (excl_try off s l0 M (by have := HSS.out; omega) HO.out.1 hMN)
            rw [← hM] at hcM hCM ⊢
            have HCM := Aside0.mk hCM
            clear hCM hM hMS hMN HSM hk
            go_wp2
            clear u1
            generalize wr = wT at HI HWI HCM ⊢
            go_loopg [21, 22] s.toNat (fun g2 v21 v22 wi => ∃ t : Nat, v22 = .int .i64 t ∧ v21 = .bool ((List.range t).all fun t : Nat => !(M.all fun k => fitB off s (t : Int) (rd l0 k))) ∧ Aside0 (t ≤ s.toNat ∧ s.toNat - t ≤ g2) ∧ Aside0 (Below wT.heap.size wT wi))
            case atStart => exact ⟨0, rfl, rfl, ⟨by omega, by omega⟩, ⟨Below.refl _ _⟩⟩
            case round =>
             obtain ⟨t, rfl, rfl, HT, HIT⟩ := hrel
             by_cases ht : (t : Int) < s
             · have u1 : decide ((t : Int) < s) = true := decide_eq_true ht
               have HTT := Aside0.mk ht
               generalize wr = wB at HIT ⊢
               go_wp2
               clear u1 ht
               go_loopg [23, 135] M.length (fun g3 v23 s135 wk => ∃ j : Nat, v23 = .bool ((M.take j).all (fun k => fitB off s (t : Int) (rd l0 k))) ∧ s135 = .int .i64 j ∧ Aside0 (j ≤ M.length ∧ M.length - j ≤ g3) ∧ Aside0 (Below wB.heap.size wB wk))
               case atStart => exact ⟨0, rfl, rfl, ⟨by omega, by omega⟩, ⟨Below.refl _ _⟩⟩
               case round =>
                obtain ⟨j, rfl, rfl, HJ, HIJ⟩ := hrel
                by_cases hj : j < M.length
                · have z1 : decide ((j : Int) < (M.length : Int)) = true := decide_eq_true (by omega)
                  have HJJ := Aside0.mk hj
                  have HAT := Aside0.mk (all_take (fun k => fitB off s (t : Int) (rd l0 k)) M j hj)
                  have HBB := Aside0.mk (below_then HIT.out HIT.out.size HIJ.out)
                  obtain ⟨ap, ep, hxp⟩ := Kd.at_int (Kd.C_below HCM.out HBB.out) (j : Int) (by omega) (by omega)
                  subst ep
                  rw [Int.toNat_natCast] at hxp
                  have hhi := HMI.out (rd M (j : Int)) (by unfold rd; rw [Int.toNat_natCast, List.getD_eq_getElem?_getD, List.getElem?_eq_getElem hj]; exact List.getElem_mem hj)
                  generalize rd M (j : Int) = h at hxp HAT hhi
                  have hh0 : 0 ≤ h := hhi.1
                  have hh1 : h < (l0.length : Int) := hhi.2
                  have HBW := Aside0.mk (below_then HWI.out HWI.out.size HBB.out)
                  obtain ⟨aq, eq, hxq⟩ := Kd.at_int (Kd.C_below HCC.out HBW.out) h hh0 hh1
                  cases eq
                  have HPP := Aside0.mk (HVL.out.2 (rd l0 h) (by unfold rd; rw [List.getD_eq_getElem?_getD, List.getElem?_eq_getElem (show h.toNat < l0.length by omega)]; exact List.getElem_mem _))
                  generalize rd l0 h = p at hxq HAT HPP
                  generalize (M.take j).all (fun k => fitB off s (t : Int) (rd l0 k)) = al at HAT ⊢
                  have k0 : wr.cell? ⟨g7, 0, none⟩ = some (.int .i64 off) := (blk_cell (blk_below BX.out HBW.out) 0).trans rfl
                  clear hhi
                  cases al with
                  | true =>
                    have HNF := Aside0.mk (near_f p s (t : Int) off (by have := HSS.out; omega) HPP.out (by have := HTT.out; have := HSS.out; omega) (by have := HO.out; omega))
                    go_upto_region 36 with fail
                    go_quiet ((exact Calls.quiet_of ((pianolalaw01_near.calls 40 p s (t : Int) off (fitB off s (t : Int) p) _ HNF.out).mono fun e w' h => ⟨h.1, h.2.out⟩)))
                    clear hxp hxq k0 hh0 hh1 z1 hj
                    go_wp2
                    go_roundg (M.length - (j + 1))
                    case measure => have := HJ.out; have := HJJ.out; omega
                    case rel => exact ⟨j + 1, by rw [HAT.out]; rfl, by rw [w64' _ (by omega) (by have := HLN.out; have := HML.out; have := HJJ.out; omega)]; rfl, ⟨by have := HJJ.out; omega, Nat.le_refl _⟩, ⟨pw_below_drewN HIJ.out _⟩⟩
                  | false =>
                    go_upto_region 36 with fail
                    go_quiet (fail)
                    clear hxp hxq k0 hh0 hh1 z1 hj
                    go_wp2
                    go_roundg (M.length - (j + 1))
                    case measure => have := HJ.out; have := HJJ.out; omega
                    case rel => exact ⟨j + 1, by rw [HAT.out]; rfl, by rw [w64' _ (by omega) (by have := HLN.out; have := HML.out; have := HJJ.out; omega)]; rfl, ⟨by have := HJJ.out; omega, Nat.le_refl _⟩, ⟨pw_below_drewN HIJ.out _⟩⟩
                · have z1 : decide ((j : Int) < (M.length : Int)) = false := decide_eq_false (by omega)
                  have hje : j = M.length := by have := HJ.out; omega
                  subst hje
                  rw [List.take_length]
                  have HRS := Aside0.mk (show ((List.range (t + 1)).all fun t : Nat => !(M.all fun k => fitB off s (t : Int) (rd l0 k))) = (((List.range t).all fun t : Nat => !(M.all fun k => fitB off s (t : Int) (rd l0 k))) && !(M.all fun k => fitB off s (t : Int) (rd l0 k))) by rw [List.range_succ, List.all_append]; simp only [List.all_cons, List.all_nil, Bool.and_true])
                  generalize ((List.range t).all fun t : Nat => !(M.all fun k => fitB off s (t : Int) (rd l0 k))) = cl at HRS ⊢
                  generalize (M.all fun k => fitB off s (t : Int) (rd l0 k)) = al at HRS ⊢
                  have HWN := Aside0.mk (below_then HIT.out HIT.out.size HIJ.out)
                  cases cl <;> cases al
                  all_goals
                    go_wp2
                    go_roundg (s.toNat - (t + 1))
                    case measure => have := HT.out; have := HTT.out; omega
                    case rel => exact ⟨t + 1, by rw [w64' _ (by omega) (by have := HTT.out; have := HSS.out; omega)]; rfl, by rw [HRS.out]; rfl, ⟨by have := HTT.out; omega, Nat.le_refl _⟩, HWN⟩
             · have u1 : decide ((t : Int) < s) = false := decide_eq_false ht
               have hte : t = s.toNat := by have := HT.out; omega
               subst hte
               rw [← HXT.out]
               have HWT := Aside0.mk (below_then HWI.out HWI.out.size HIT.out)
               have HCN := Aside0.mk (Kd.C_below HCM.out HIT.out)
               have k0 : wr.cell? ⟨g7, 0, none⟩ = some (.int .i64 off) := (blk_cell (blk_below BX.out HWT.out) 0).trans rfl
               have k1 : wr.cell? ⟨g7, 1, none⟩ = some (.slice (some ⟨gx, 0, none⟩) cs'.length cx) := (blk_cell (blk_below BX.out HWT.out) 1).trans rfl
               clear ht HXT
               generalize excl off s l0 M = E at HVE HME ⊢
               cases E with
               | true =>
                 have z3 : C.length ≤ M.length := HME.out rfl
                 have z2 : decide ((M.length : Int) < (C.length : Int)) = false := decide_eq_false (by omega)
                 have HVF := Aside0.mk (show step_Verify.f 3000 off cs' 0 s M = some 0 by rw [HVE.out]; rfl)
                 go_wp2_with fail
                 refine (step_Verify.calls 3000 off (some ⟨gx, 0, none⟩) cx cs' 0 s AM cM M 0 _ (Kd.C_below HC.out HWT.out) hcx HCN.out hcM HVF.out).mono ?_
                 rintro e w8 ⟨rfl, hb⟩
                 replace HWT := Aside0.mk (below_then HWT.out HWT.out.size hb)
                 clear hb k0 k1
                 go_wp2
                 go_roundg (PW - (m + 1))
                 case measure => have := HMM.out; have := HMP.out; omega
                 case rel => exact ⟨m + 1, by rw [w64' _ (by omega) (by have := HPW.out; have := HMP.out; omega)]; rfl, ⟨⟨by omega, HMP.out⟩, Nat.le_refl _⟩, HWT⟩
               | false =>
                 have HVF := Aside0.mk (show step_Verify.f 3000 off cs' 0 s M = some 14 by rw [HVE.out]; rfl)
                 go_wp2_with fail
                 refine (step_Verify.calls 3000 off (some ⟨gx, 0, none⟩) cx cs' 0 s AM cM M 14 _ (Kd.C_below HC.out HWT.out) hcx HCN.out hcM HVF.out).mono ?_
                 rintro e w8 ⟨rfl, hb⟩
                 replace HWT := Aside0.mk (below_then HWT.out HWT.out.size hb)
                 clear hb k0 k1
                 go_wp2
                 go_roundg (PW - (m + 1))
                 case measure => have := HMM.out; have := HMP.out; omega
                 case rel => exact ⟨m + 1, by rw [w64' _ (by omega) (by have := HPW.out; have := HMP.out; omega)]; rfl, ⟨⟨by omega, HMP.out⟩, Nat.le_refl _⟩, HWT⟩
       · have u0 : decide ((m : Int) < wrap64 (2 ^ min l0.length 64)) = false := by rw [shl_len _ (by have := HLN.out; omega), ← HPW.out.2.2]; exact decide_eq_false (by omega)
         have HWF := Aside0.mk (below_then HB.out HB.out.size HW.out)
         go_wp2_with fail
         refine (works_calls _).mono ?_
         rintro e w7 ⟨rfl, hb⟩
         replace HWF := Aside0.mk (below_then HWF.out HWF.out.size hb)
         clear hb
         go_wp2
         go_ret
         exact ⟨rfl, HWF.out⟩
end Go.Proofs.Ytnbcdbkhpdpjgaa.H
