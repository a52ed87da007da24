/- The walk of the law StepExact: it returns true. Printed by gen_exact.py of this session. -/
import Derived.Test.YtnbcdbkhpdpjgaaHU
import Derived.Test.YtnbcdbkhpdpjgaaHV
import Derived.Test.YtnbcdbkhpdpjgaaI3
import Derived.Test.YtnbcdbkhpdpjgaaHB
namespace Go.Proofs.Ytnbcdbkhpdpjgaa.H
open Go.RowKit Go.Proofs.YtnbcdbkhpdpjgaaW.PrintWords Go.Proofs.YtnbcdbkhpdpjgaaW.PrintLast Go.Proofs.YtnbcdbkhpdpjgaaW.PrintMore
open Go.Proofs.Ytnbcdbkhpdpjgaa.QA
set_option linter.unusedVariables false
set_option linter.unusedSimpArgs false

def exact_T10 : Bool × List (List Nat × List Nat) := (true, [([], []), ([0], [0]), ([], []), ([1, 2], [1, 2]), ([3], [3]), ([], []), ([4, 5], [4, 5]), ([6], [6]), ([], []), ([], []), ([8, 9], [8, 9]), ([10], [10]), ([11], [11]), ([12], [12]), ([7, 13], [7, 13]), ([4, 5, 0, 1, 2, 3, 4, 5, 6, 7, 8, 9, 10, 11, 12, 13, 14], [4, 5]), ([15, 14, 0, 1, 2, 3, 4, 5, 6, 7, 8, 9, 10, 11, 12, 13, 14], [14, 15])])
def exact_B10 : List Nat := [0, 1, 0, 7, 15, 0, 63, 127, 0, 0, 768, 1792, 3840, 7936, 16383, 32767, 65535]
theorem exact_tab10 : rtab .any (opsOf Try.f8 10) = exact_T10 := by kernel_rfl
theorem exact_bits10 : waitsOk exact_T10.2 exact_B10 = true := by kernel_rfl

def exact_T42 : Bool × List (List Nat × List Nat) := (true, [([], []), ([], []), ([], []), ([], []), ([3], [3]), ([4], [4]), ([0, 1, 2, 5], [0, 1, 2, 5]), ([6], [6]), ([7], [7]), ([7], [7]), ([8, 6, 0, 1, 2, 3, 4, 5, 6, 7, 8], [8]), ([9, 10, 0, 1, 2, 3, 4, 5, 6, 7, 8, 9, 10], [9])])
def exact_B42 : List Nat := [0, 0, 0, 0, 8, 24, 63, 127, 255, 255, 511, 2047]
theorem exact_tab42 : rtab .any (opsOf Try.f8 42) = exact_T42 := by kernel_rfl
theorem exact_bits42 : waitsOk exact_T42.2 exact_B42 = true := by kernel_rfl
theorem one_int {W : World} {g t : Nat} {x : Int} (hb : W.heap[g]? = some (.cells #[.int .i64 x] t (0, 0))) : Kd.C dN W (some ⟨g, 0, none⟩) 1 [x] := by
 refine ⟨rfl, by simp, fun _ => ⟨_, rfl, fun j p hj => ?_⟩⟩
 match j, hj with
 | 0, hj =>
  obtain rfl := Option.some.inj hj
  refine ⟨[.int .i64 x], rfl, rfl, fun i u hu => ?_⟩
  match i, hu with
  | 0, hu =>
   rw [← Option.some.inj hu, add_plain]
   exact (blk_cell hb _).trans rfl

set_option maxHeartbeats 16000000 in
set_option maxRecDepth 100000 in
theorem stepExact_calls (a0 a1 a2 a3 a4 : Int) (A : Option Addr) (c : Nat) (l : List S92) (A1 : Option Addr) (c1 : Nat) (lm : List Int) (b2 : Int) (w : World) (hr : Kd.C k92 w A l.length l) (hc : l.length ≤ c) (hok : mdOk a0 a1 a2 a3 a4 l) (hr1 : Kd.C (Kd.int .u8) w A1 lm.length lm) (hc1 : lm.length ≤ c1) (hby : ∀ b ∈ lm, isByte b) (h2 : isByte b2) :
  Calls Try.prog 8 #[.agg #[.int .u8 a0, .int .u8 a1, .int .u8 a2, .int .u8 a3, .int .u8 a4, .slice A l.length c], .slice A1 lm.length c1, .int .u8 b2] w fun e w' => e = .returned (.bool true) ∧ Below w.heap.size w w' := by
 have hu24 := Try.underlying24
 have hu59 := Try.underlying59
 have hu46 := Try.underlying46
 obtain ⟨off, cs, s0, os, rs, hmd, hM⟩ := made_true a0 a1 a2 a3 a4 l hok
 unfold isByte at h2
 have HM := Aside0.mk hM
 have HMD := Aside0.mk hmd
 have HR := Aside0.mk hr
 have HR1 := Aside0.mk hr1
 have HBY := Aside0.mk hby
 have HY := Aside0.mk h2
 have HL := Aside0.mk hM.hc
 clear hmd hr hM hok h2 hr1 hby
 go_enter Try.func8, Try.ntmps8
 go_wp2_with fail
 refine (pianolalaw01_Master_made.calls a0 a1 a2 a3 a4 A c l off cs s0 os rs _ (Kd.C_alloc HR.out _) hc HMD.out).mono ?_
 rintro e w1 ⟨v1, v2, v3, rfl, hS, hO, hR, hb⟩
 obtain ⟨gx, cx, rfl, _, _, _⟩ := Kd.S_form hS (by have := HL.out; omega)
 have HB := Aside0.mk (below_then (below_alloc (Below.refl w.heap.size w) _) (by simp) hb)
 have HS := Aside0.mk (Kd.S_lower (base' := w.heap.size) (Kd.S_mono hS (fun _ _ => trivial) : Kd.S dL 34 w1 _ (fun _ => True) _ _) (by simp))
 clear hS hO hR hb
 go_upto_region 2 with fail
 have BX := Aside0.mk (blk_new w1 (.cells #[.int .i64 off, .slice (some ⟨gx, 0, none⟩) cs.length cx] 24))
 replace HS := Aside0.mk (Kd.S_alloc HS.out (.cells #[.int .i64 off, .slice (some ⟨gx, 0, none⟩) cs.length cx] 24))
 replace HB := Aside0.mk (below_alloc HB.out (.cells #[.int .i64 off, .slice (some ⟨gx, 0, none⟩) cs.length cx] 24))
 generalize w1.alloc (.cells #[.int .i64 off, .slice (some ⟨gx, 0, none⟩) cs.length cx] 24) = w2 at BX HS HB ⊢
 generalize w1.heap.size = g7 at BX ⊢
 have k1 : w2.cell? ⟨g7, 1, none⟩ = some (.slice (some ⟨gx, 0, none⟩) cs.length cx) := (blk_cell BX.out 1).trans rfl
 have HPM := Aside0.mk (Made.posM HM.out)
 go_wp2
 clear k1
 go_loopg [11, 44] cs.length (fun gg v11 s44 wr => ∃ (i n : Nat) (cs' : List (List Int)), v11 = .int .i64 n ∧ s44 = .int .i64 i ∧ Aside0 ((i ≤ cs.length ∧ cs.length - i ≤ gg) ∧ n ≤ 5 * i) ∧ Aside0 (PosM cs cs' n) ∧ Aside0 (Kd.S dL 34 wr w.heap.size (fun _ => True) (.slice (some ⟨gx, 0, none⟩) cs'.length cx) cs') ∧ Aside0 (wr.heap[g7]? = some (.cells #[.int .i64 off, .slice (some ⟨gx, 0, none⟩) cs'.length cx] 24 (0, 0))) ∧ Aside0 (Below w.heap.size w wr))
 case atStart => exact ⟨0, 0, cs, rfl, rfl, ⟨⟨by omega, by omega⟩, by omega⟩, HPM, HS, BX, HB⟩
 case round =>
  clear HPM HS BX HB
  obtain ⟨i, n, cs', rfl, rfl, HI, HPM, HS, BX, HB⟩ := hrel
  by_cases hi : i < cs.length
  · have j1 : decide ((i : Int) < (cs.length : Int)) = true := decide_eq_true (by omega)
    have HII := Aside0.mk hi
    have n1 : i < cs'.length := by have := HPM.out.1; omega
    have k1 : wr.cell? ⟨g7, 1, none⟩ = some (.slice (some ⟨gx, 0, none⟩) cs'.length cx) := (blk_cell BX.out 1).trans rfl
    obtain ⟨ac, Ac, cc, ec, hxc, hcc, hCc⟩ := at_L1 (Kd.S_reads' HS.out).2.2 (i : Int) (by omega) (by omega)
    cases ec
    rw [add_plain, Int.toNat_natCast] at hxc
    obtain ⟨len0, hl0⟩ : ∃ len0, len0 = (cs.getD i []).length := ⟨_, rfl⟩
    have hl1 : (rd_L1 cs' (i : Int)).length = len0 := by unfold rd_L1; rw [Int.toNat_natCast, HPM.out.2.1 i, hl0]
    have hl5 : len0 ≤ 5 := by
     have h7 := (HM.out.inn i hi).2.1
     omega
    rw [hl1] at hxc
    have HLE := Aside0.mk (And.intro hl0 hl5)
    clear hl1 hl0 hl5 hcc hCc
    go_wp2
    clear k1 hxc n1 hi
    go_loopg [11, 53] len0 (fun g2 v11 s53 wi => ∃ (k n : Nat) (cs' : List (List Int)), v11 = .int .i64 n ∧ s53 = .int .i64 k ∧ Aside0 ((k ≤ len0 ∧ len0 - k ≤ g2) ∧ n ≤ 5 * i + k) ∧ Aside0 (PosM cs cs' n) ∧ Aside0 (Kd.S dL 34 wi w.heap.size (fun _ => True) (.slice (some ⟨gx, 0, none⟩) cs'.length cx) cs') ∧ Aside0 (wi.heap[g7]? = some (.cells #[.int .i64 off, .slice (some ⟨gx, 0, none⟩) cs'.length cx] 24 (0, 0))) ∧ Aside0 (Below w.heap.size w wi))
    case atStart => exact ⟨0, n, cs', rfl, rfl, ⟨⟨by omega, by omega⟩, by have := HI.out; omega⟩, HPM, HS, BX, HB⟩
    case round =>
     clear HPM HS BX HB
     obtain ⟨k, n, cs', rfl, rfl, HK, HPM, HS, BX, HB⟩ := hrel
     by_cases hk : k < len0
     · have u1 : decide ((k : Int) < (len0 : Int)) = true := decide_eq_true (by omega)
       have HKK := Aside0.mk hk
       by_cases hn : n < lm.length
       · have u2 : decide ((n : Int) < (lm.length : Int)) = true := decide_eq_true (by omega)
         have HNN := Aside0.mk hn
         go_upto_region 10 with fail
         clear hn hk

         obtain ⟨am, em, hxm⟩ := Kd.at_int (Kd.C_below HR1.out HB.out) (n : Int) (by omega) (by have := HNN.out; omega)
         subst em
         rw [Int.toNat_natCast] at hxm
         have HMV := Aside0.mk (show isByte (rd lm (n : Int)) by have hn := HNN.out; unfold rd; rw [Int.toNat_natCast, List.getD_eq_getElem?_getD, List.getElem?_eq_getElem hn]; exact HBY.out _ (List.getElem_mem hn))
         generalize rd lm (n : Int) = mv at hxm HMV
         replace HS := Aside0.mk (Kd.S_below HS.out (below_drew (Below.refl wr.heap.size wr)))
         replace HB := Aside0.mk (below_drew1 HB.out)
         replace BX := Aside0.mk (show wr.drew.heap[g7]? = _ from BX.out)
         obtain ⟨gu, cu, q1, q2, q3, q4, ⟨cells, q5⟩, q6⟩ := put_at HS.out i k (by have := HPM.out.1; have := HII.out; omega) (by have := HPM.out.2.1 i; have := HKK.out; have := HLE.out.1; omega)
         have hxm' : wr.drew.cell? (am.add n) = some (.int .u8 mv) := hxm
         obtain ⟨x0, hx0⟩ : ∃ x0, x0 = (cs'.getD i []).getD k 0 := ⟨_, rfl⟩
         rw [← hx0] at q2
         have hx1 := HPM.out.2.2 i k (by have := HPM.out.2.1 i; have := HKK.out; have := HLE.out.1; omega)
         rw [← hx0] at hx1
         have hlr : (cs'.getD i []).length = len0 := by have := HPM.out.2.1 i; have := HLE.out.1; omega
         rw [hlr] at q1
         have HXX := Aside0.mk (And.intro hx0 hx1)
         have HQ := Aside0.mk (And.intro q4 (And.intro q5 q6))
         have n1 : i < cs'.length := by have := HPM.out.1; have := HII.out; omega
         have n2 : k < len0 := HKK.out
         have n3 : n < lm.length := HNN.out
         clear q4 q5 q6 hx0 hx1 hlr hxm
         refine start_ (n := 17) (S := fun w' => w'.cell? ⟨g7, 1, none⟩ = some (.slice (some ⟨gx, 0, none⟩) cs'.length cx) ∧ w'.cell? ⟨gx, i, none⟩ = some (.slice (some ⟨gu, 0, none⟩) len0 cu) ∧ w'.cell? ⟨gu, k, none⟩ = some (.int .i64 x0) ∧ w'.cell? (am.add n) = some (.int .u8 mv)) (ds := [16]) #[false, false, false, false, false, false, false, false, false, false, false, false, false, false, false, false, false] (by kernel_rfl) rfl rfl ⟨(blk_cell BX.out 1).trans rfl, q1, q2, hxm'⟩ (fun hHeld => ?_)
         refine with_tabW exact_tab10 exact_bits10 (fun HT_ HW_ => ?_)
         generalize wr.drew = wB at HS HB BX HQ q1 q2 q3 hxm' hHeld ⊢
         refine pure_ (i := 0) (N := some 60) (v := ?_) (a' := ?_) #[true, false, false, false, false, false, false, false, false, false, false, false, false, false, false, false, false] rfl rfl (any_of HT_.out (by kernel_rfl)) (fun _ _ _ h => h) (Or.inl ⟨by rfl, ?_⟩) ?_ ?_
         rotate_left
         · intro w'
           go_simp
           with_reducible rfl
         rotate_left
         · simp only [Act.put, List.setIfInBounds_toArray, List.set_cons_zero, List.set_cons_succ, i64_w, i32_w]
           rfl
         refine take_ (i := 1) (N := some 61) (v := ?_) (a' := ?_) #[true, true, false, false, false, false, false, false, false, false, false, false, false, false, false, false, false] rfl rfl (take_ofW HT_.out HW_.out (by kernel_rfl)) (fun _ _ _ h => h) (Or.inl ⟨by rfl, ?_⟩) hHeld ?_ ?_
         rotate_left
         · rintro w' ⟨s0, s1, s2, s3⟩
           go_simp
           with_reducible rfl
         rotate_left
         · simp only [Act.put, List.setIfInBounds_toArray, List.set_cons_zero, List.set_cons_succ, i64_w, i32_w]
           rfl
         refine pure_ (i := 2) (N := some 62) (v := ?_) (a' := ?_) #[true, true, true, false, false, false, false, false, false, false, false, false, false, false, false, false, false] rfl rfl (any_of HT_.out (by kernel_rfl)) (fun _ _ _ h => h) (Or.inl ⟨by rfl, ?_⟩) ?_ ?_
         rotate_left
         · intro w'
           go_simp
           with_reducible rfl
         rotate_left
         · simp only [Act.put, List.setIfInBounds_toArray, List.set_cons_zero, List.set_cons_succ, i64_w, i32_w]
           rfl
         refine pure_ (i := 3) (N := some 63) (v := ?_) (a' := ?_) #[true, true, true, true, false, false, false, false, false, false, false, false, false, false, false, false, false] rfl rfl (any_of HT_.out (by kernel_rfl)) (fun _ _ _ h => h) (Or.inl ⟨by rfl, ?_⟩) ?_ ?_
         rotate_left
         · intro w'
           go_simp
           with_reducible rfl
         rotate_left
         · simp only [Act.put, List.setIfInBounds_toArray, List.set_cons_zero, List.set_cons_succ, i64_w, i32_w]
           rfl
         refine take_ (i := 4) (N := some 64) (v := ?_) (a' := ?_) #[true, true, true, true, true, false, false, false, false, false, false, false, false, false, false, false, false] rfl rfl (take_ofW HT_.out HW_.out (by kernel_rfl)) (fun _ _ _ h => h) (Or.inl ⟨by rfl, ?_⟩) hHeld ?_ ?_
         rotate_left
         · rintro w' ⟨s0, s1, s2, s3⟩
           go_simp
           with_reducible rfl
         rotate_left
         · simp only [Act.put, List.setIfInBounds_toArray, List.set_cons_zero, List.set_cons_succ, i64_w, i32_w]
           rfl
         refine pure_ (i := 5) (N := some 65) (v := ?_) (a' := ?_) #[true, true, true, true, true, true, false, false, false, false, false, false, false, false, false, false, false] rfl rfl (any_of HT_.out (by kernel_rfl)) (fun _ _ _ h => h) (Or.inl ⟨by rfl, ?_⟩) ?_ ?_
         rotate_left
         · intro w'
           go_simp
           with_reducible rfl
         rotate_left
         · simp only [Act.put, List.setIfInBounds_toArray, List.set_cons_zero, List.set_cons_succ, i64_w, i32_w]
           rfl
         refine pure_ (i := 6) (N := some 66) (v := ?_) (a' := ?_) #[true, true, true, true, true, true, true, false, false, false, false, false, false, false, false, false, false] rfl rfl (any_of HT_.out (by kernel_rfl)) (fun _ _ _ h => h) (Or.inl ⟨by rfl, ?_⟩) ?_ ?_
         rotate_left
         · intro w'
           go_simp
           with_reducible rfl
         rotate_left
         · simp only [Act.put, List.setIfInBounds_toArray, List.set_cons_zero, List.set_cons_succ, i64_w, i32_w]
           rfl
         refine take_ (i := 7) (N := some 67) (v := ?_) (a' := ?_) #[true, true, true, true, true, true, true, true, false, false, false, false, false, false, false, false, false] rfl rfl (take_ofW HT_.out HW_.out (by kernel_rfl)) (fun _ _ _ h => h) (Or.inl ⟨by rfl, ?_⟩) hHeld ?_ ?_
         rotate_left
         · rintro w' ⟨s0, s1, s2, s3⟩
           go_simp
           with_reducible rfl
         rotate_left
         · simp only [Act.put, List.setIfInBounds_toArray, List.set_cons_zero, List.set_cons_succ, i64_w, i32_w]
           rfl
         refine pure_ (i := 8) (N := some 68) (v := ?_) (a' := ?_) #[true, true, true, true, true, true, true, true, true, false, false, false, false, false, false, false, false] rfl rfl (any_of HT_.out (by kernel_rfl)) (fun _ _ _ h => h) (Or.inl ⟨by rfl, ?_⟩) ?_ ?_
         rotate_left
         · intro w'
           go_simp
           with_reducible rfl
         rotate_left
         · simp only [Act.put, List.setIfInBounds_toArray, List.set_cons_zero, List.set_cons_succ, i64_w, i32_w]
           rfl
         refine pure_ (i := 9) (N := some 69) (v := ?_) (a' := ?_) #[true, true, true, true, true, true, true, true, true, true, false, false, false, false, false, false, false] rfl rfl (any_of HT_.out (by kernel_rfl)) (fun _ _ _ h => h) (Or.inl ⟨by rfl, ?_⟩) ?_ ?_
         rotate_left
         · intro w'
           go_simp
           with_reducible rfl
         rotate_left
         · simp only [Act.put, List.setIfInBounds_toArray, List.set_cons_zero, List.set_cons_succ, i64_w, i32_w]
           rfl
         refine pure_ (i := 10) (N := some 70) (v := ?_) (a' := ?_) #[true, true, true, true, true, true, true, true, true, true, true, false, false, false, false, false, false] rfl rfl (any_of HT_.out (by kernel_rfl)) (fun _ _ _ h => h) (Or.inl ⟨by rfl, ?_⟩) ?_ ?_
         rotate_left
         · intro w'
           go_simp
           with_reducible rfl
         rotate_left
         · simp only [Act.put, List.setIfInBounds_toArray, List.set_cons_zero, List.set_cons_succ, i64_w, i32_w]
           rfl
         refine take_ (i := 11) (N := some 71) (v := ?_) (a' := ?_) #[true, true, true, true, true, true, true, true, true, true, true, true, false, false, false, false, false] rfl rfl (take_ofW HT_.out HW_.out (by kernel_rfl)) (fun _ _ _ h => h) (Or.inl ⟨by rfl, ?_⟩) hHeld ?_ ?_
         rotate_left
         · rintro w' ⟨s0, s1, s2, s3⟩
           go_simp
           with_reducible rfl
         rotate_left
         · simp only [Act.put, List.setIfInBounds_toArray, List.set_cons_zero, List.set_cons_succ, i64_w, i32_w]
           rfl
         refine pure_ (i := 12) (N := some 72) (v := ?_) (a' := ?_) #[true, true, true, true, true, true, true, true, true, true, true, true, true, false, false, false, false] rfl rfl (any_of HT_.out (by kernel_rfl)) (fun _ _ _ h => h) (Or.inl ⟨by rfl, ?_⟩) ?_ ?_
         rotate_left
         · intro w'
           go_simp
           with_reducible rfl
         rotate_left
         · simp only [Act.put, List.setIfInBounds_toArray, List.set_cons_zero, List.set_cons_succ, i64_w, i32_w]
           rfl
         refine pure_ (i := 13) (N := some 73) (v := ?_) (a' := ?_) #[true, true, true, true, true, true, true, true, true, true, true, true, true, true, false, false, false] rfl rfl (any_of HT_.out (by kernel_rfl)) (fun _ _ _ h => h) (Or.inl ⟨by rfl, ?_⟩) ?_ ?_
         rotate_left
         · intro w'
           go_simp
           with_reducible rfl
         rotate_left
         · simp only [Act.put, List.setIfInBounds_toArray, List.set_cons_zero, List.set_cons_succ, i64_w, i32_w]
           rfl
         refine pure_ (i := 14) (N := some 74) (v := ?_) (a' := ?_) #[true, true, true, true, true, true, true, true, true, true, true, true, true, true, true, false, false] rfl rfl (any_of HT_.out (by kernel_rfl)) (fun _ _ _ h => h) (Or.inl ⟨by rfl, ?_⟩) ?_ ?_
         rotate_left
         · intro w'
           go_simp
           with_reducible rfl
         rotate_left
         · simp only [Act.put, List.setIfInBounds_toArray, List.set_cons_zero, List.set_cons_succ, i64_w, i32_w]
           rfl
         refine pure_ (i := 15) (N := some 75) (v := ?_) (a' := ?_) #[true, true, true, true, true, true, true, true, true, true, true, true, true, true, true, true, false] rfl rfl (any_of HT_.out (by kernel_rfl)) (fun _ _ _ h => h) (Or.inl ⟨by rfl, ?_⟩) ?_ ?_
         rotate_left
         · intro w'
           go_simp
           with_reducible rfl
         rotate_left
         · simp only [Act.put, List.setIfInBounds_toArray, List.set_cons_zero, List.set_cons_succ, i64_w, i32_w]
           rfl
         have er : wrap64 (x0 + (wrap64 mv).tmod 9) = x0 + mv % 9 := by
          have h1 := HMV.out
          have h3 := HXX.out.2
          have h4 := HI.out
          have h5 := HII.out
          have h6 := HK.out
          have h7 := HL.out
          have h8 := HLE.out
          have h9 := HKK.out
          unfold isByte at h1
          rw [w64' mv (by omega) (by omega), Int.tmod_eq_emod_of_nonneg (by omega), w64' _ (by omega) (by omega)]
         rw [er]
         clear er
         refine last_ (i := 16) (N := none) #[true, true, true, true, true, true, true, true, true, true, true, true, true, true, true, true, true] rfl rfl (one_of HT_.out (by kernel_rfl)) (by decide) (fun K hK => ?_)
         refine store_step (w1 := wB.setCell ⟨gu, k, none⟩ (.int .i64 (x0 + mv % 9))) (by rfl) rfl ?hr ?_
         (case hr => first | (go_simp; done) | (go_simp; rfl))
         refine hK.out _ _ ?_
         clear hK K
         have f1 := HQ.out.2.2 (x0 + mv % 9)
         have f2 := below_set (j := k) (v := .int .i64 (x0 + mv % 9)) HB.out HQ.out.1
         have f3 := blk_far BX.out (p := ⟨gu, k, none⟩) (blk_ne BX.out HQ.out.2.1 (by decide)) (.int .i64 (x0 + mv % 9))
         have f4 := PosM.put HPM.out i k n1 (x0 + mv % 9) (by have h1 := HMV.out; unfold isByte at h1; rw [← HXX.out.1]; omega) (by have h1 := HMV.out; unfold isByte at h1; rw [← HXX.out.1]; omega)
         replace HS := Aside0.mk f1
         replace HB := Aside0.mk f2
         replace BX := Aside0.mk f3
         have HPN := Aside0.mk f4
         clear f1 f2 f3 f4 q1 q2 q3 hxm' hHeld HQ
         generalize wB.setCell ⟨gu, k, none⟩ (.int .i64 (x0 + mv % 9)) = wC at HS HB BX ⊢
         refine done_ (done_of HT_.out (by kernel_rfl)) ?_
         clear HT_ HW_ n1 n2 n3
         go_wp2
         go_roundg (len0 - (k + 1))
         case measure => have := HK.out; have := HKK.out; omega
         case rel => exact ⟨k + 1, n + 1, _, by rw [w64' _ (by omega) (by have := HK.out; have := HKK.out; have := HLE.out; have := HI.out; have := HL.out; omega)]; rfl, by rw [w64' _ (by omega) (by have := HKK.out; have := HLE.out; omega)]; rfl, ⟨⟨by have := HKK.out; omega, Nat.le_refl _⟩, by have := HK.out; omega⟩, HPN, ⟨by rw [List.length_set]; exact HS.out⟩, ⟨by rw [List.length_set]; exact BX.out⟩, HB⟩
       · have u2 : decide ((n : Int) < (lm.length : Int)) = false := decide_eq_false (by omega)
         go_wp2
         go_roundg (len0 - (k + 1))
         case measure => have := HK.out; have := HKK.out; omega
         case rel => exact ⟨k + 1, n + 1, cs', by rw [w64' _ (by omega) (by have := HK.out; have := HKK.out; have := HLE.out; have := HI.out; have := HL.out; omega)]; rfl, by rw [w64' _ (by omega) (by have := HKK.out; have := HLE.out; omega)]; rfl, ⟨⟨by have := HKK.out; omega, Nat.le_refl _⟩, by have := HK.out; omega⟩, ⟨PosM.mono HPM.out (by omega)⟩, HS, BX, HB⟩
     · have u1 : decide ((k : Int) < (len0 : Int)) = false := decide_eq_false (by omega)
       go_wp2
       go_roundg (cs.length - (i + 1))
       case measure => have := HI.out; have := HII.out; omega
       case rel => exact ⟨i + 1, n, cs', rfl, by rw [w64' _ (by omega) (by have := HL.out; have := HII.out; omega)]; rfl, ⟨⟨by have := HII.out; omega, Nat.le_refl _⟩, by have := HK.out; have := HLE.out; have := HI.out; omega⟩, HPM, HS, BX, HB⟩
  · have j1 : decide ((i : Int) < (cs.length : Int)) = false := decide_eq_false (by omega)
    have HV := Aside0.mk (HPM.out.valid HM.out.valid (by have := HI.out; have := HL.out; omega))
    have HLC := Aside0.mk HPM.out.1
    have HO := Aside0.mk HM.out.ho
    go_upto_region 15 with fail
    have es : wrap64 (1 + (wrap64 b2).tmod 45) = 1 + b2 % 45 := by
     have h1 := HY.out
     rw [w64' b2 (by omega) (by omega), Int.tmod_eq_emod_of_nonneg (by omega), w64' _ (by omega) (by omega)]
    rw [es]
    obtain ⟨s, hs⟩ : ∃ s, s = 1 + b2 % 45 := ⟨_, rfl⟩
    rw [← hs]
    have HSS := Aside0.mk (show 1 ≤ s ∧ s ≤ 45 by omega)
    clear es hs
    have HC := Aside0.mk (Kd.S_reads' HS.out).2.2
    have hcx := (Kd.S_reads' HS.out).2.1
    obtain ⟨L, hL⟩ : ∃ L, L = oneStep off s cs' := ⟨_, rfl⟩
    have HST := Aside0.mk (steps_one HV.out s (by have := HSS.out; omega))
    rw [← hL] at HST
    have HLL := Aside0.mk hL
    obtain ⟨gv, fv, hgf, hgv, hfv⟩ : ∃ gv fv, step_Greatest.f off cs' s s = some (gv, fv) ∧ gv = (if cs'.all (allowsB off s) = true then s else 0) ∧ fv = (if cs'.all (allowsB off s) = true then 0 else 8) := ⟨_, _, greatest_one HV.out s (by have := HSS.out; omega), rfl, rfl⟩
    have HGR := Aside0.mk hgf
    have HGF := Aside0.mk (And.intro hgv hfv)
    clear hL hgf hgv hfv HS HI HPM
    have k0 : wr.cell? ⟨g7, 0, none⟩ = some (.int .i64 off) := (blk_cell BX.out 0).trans rfl
    have k1 : wr.cell? ⟨g7, 1, none⟩ = some (.slice (some ⟨gx, 0, none⟩) cs'.length cx) := (blk_cell BX.out 1).trans rfl
    go_wp2_with fail
    refine (step_Steps.calls off (some ⟨gx, 0, none⟩) cx cs' s s L 0 _ HC.out hcx HST.out).mono ?_
    rintro e w4 ⟨v, rfl, hR, hb⟩
    obtain ⟨AL, cL, rfl, hcL, hCL⟩ := Kd.R_reads hR
    replace HC := Aside0.mk (Kd.C_below HC.out hb)
    replace HB := Aside0.mk (below_then HB.out HB.out.size hb)
    replace BX := Aside0.mk (blk_below BX.out hb)
    have HCL := Aside0.mk hCL
    clear hR hCL hb k0 k1
    have k0 : w4.cell? ⟨g7, 0, none⟩ = some (.int .i64 off) := (blk_cell BX.out 0).trans rfl
    have k1 : w4.cell? ⟨g7, 1, none⟩ = some (.slice (some ⟨gx, 0, none⟩) cs'.length cx) := (blk_cell BX.out 1).trans rfl
    go_wp2_with fail
    refine (step_Greatest.calls off (some ⟨gx, 0, none⟩) cx cs' s s gv fv _ HC.out hcx HGR.out).mono ?_
    rintro e w5 ⟨rfl, hb⟩
    replace HC := Aside0.mk (Kd.C_below HC.out hb)
    replace HCL := Aside0.mk (Kd.C_below HCL.out hb)
    replace HB := Aside0.mk (below_then HB.out HB.out.size hb)
    replace BX := Aside0.mk (blk_below BX.out hb)
    clear hb k0 k1
    have k1 : w5.cell? ⟨g7, 1, none⟩ = some (.slice (some ⟨gx, 0, none⟩) cs'.length cx) := (blk_cell BX.out 1).trans rfl
    go_wp2
    clear k1 j1 hi
    go_loopg [19, 105] cs'.length (fun gg v19 s105 wr => ∃ j : Nat, v19 = .bool ((cs'.take j).all fun l => decide (0 < (offsOf off s l).length)) ∧ s105 = .int .i64 j ∧ Aside0 (j ≤ cs'.length ∧ cs'.length - j ≤ gg) ∧ Aside0 (Below w5.heap.size w5 wr))
    case atStart => exact ⟨0, rfl, rfl, ⟨by omega, by omega⟩, ⟨Below.refl _ _⟩⟩
    case round =>
     obtain ⟨j, rfl, rfl, HJ, HW⟩ := hrel
     by_cases hj : j < cs'.length
     · have j1 : decide ((j : Int) < (cs'.length : Int)) = true := decide_eq_true (by omega)
       have HJJ := Aside0.mk hj
       obtain ⟨ac, Ac, cc, ec, hxc, hcc, hCc⟩ := at_L1 (Kd.C_below HC.out HW.out) (j : Int) (by omega) (by omega)
       cases ec
       rw [add_plain, Int.toNat_natCast] at hxc
       have HCC := Aside0.mk hCc
       have HOF := Aside0.mk (offsets_of HV.out (j : Int) s ⟨by omega, by omega⟩ (by have := HSS.out; omega))
       have HRO := Aside0.mk (fun o => rows_at HV.out (j : Int) s o ⟨by omega, by omega⟩ (by have := HSS.out; omega))
       have HVL := Aside0.mk (HV.out.2.2.2 _ (row_mem (ls := cs') (a1 := (j : Int)) ⟨by omega, by omega⟩))
       have HTA := Aside0.mk (all_takeL (fun l => decide (0 < (offsOf off s l).length)) cs' j hj)
       obtain ⟨lc, hlc⟩ : ∃ lc, lc = rd_L1 cs' (j : Int) := ⟨_, rfl⟩
       rw [← hlc] at hxc hcc HCC HOF HRO HVL HTA
       obtain ⟨O, hO⟩ : ∃ O, O = offsOf off s lc := ⟨_, rfl⟩
       rw [← hO] at HOF HRO HTA
       have HOO := Aside0.mk hO
       have k0 : wr.cell? ⟨g7, 0, none⟩ = some (.int .i64 off) := (blk_cell (blk_below BX.out HW.out) 0).trans rfl
       have k1 : wr.cell? ⟨g7, 1, none⟩ = some (.slice (some ⟨gx, 0, none⟩) cs'.length cx) := (blk_cell (blk_below BX.out HW.out) 1).trans rfl
       clear hlc hO hCc
       go_wp2_with fail
       refine (step_Offsets.calls off (some ⟨gx, 0, none⟩) cx cs' (j : Int) s O 0 _ (Kd.C_below HC.out HW.out) hcx HOF.out).mono ?_
       rintro e wA ⟨v, rfl, hR, hb⟩
       obtain ⟨AO, cO, rfl, hcO, hCO⟩ := Kd.R_reads hR
       have HCO := Aside0.mk hCO
       replace HCC := Aside0.mk (Kd.C_below HCC.out hb)
       have hW := below_then HW.out HW.out.size hb
       replace HW := Aside0.mk hW
       clear hR hCO hb hW k0 k1 j1 hxc hj HOF
       go_wp2
       go_loopg [24, 25] s.toNat (fun g2 v24 v25 wi => ∃ t : Nat, v25 = .int .i64 t ∧ Aside0 (t ≤ s.toNat ∧ s.toNat - t ≤ g2) ∧ Aside0 (Kd.R dN 3 wi wA.heap.size (fun _ => True) v24 (offsTo (arcsOf off s lc) s t)) ∧ Aside0 (Below wA.heap.size wA wi))
       case atStart => exact ⟨0, rfl, ⟨by omega, by omega⟩, ⟨Kd.R_nil _ _ _ _ _⟩, ⟨Below.refl _ _⟩⟩
       case round =>
        obtain ⟨t, rfl, HT, HWT, HI⟩ := hrel
        by_cases ht : (t : Int) < s
        · have u1 : decide ((t : Int) < s) = true := decide_eq_true ht
          have HTT := Aside0.mk ht
          generalize wr = wB at HWT HI ⊢
          go_wp2
          clear u1
          go_loopg [26, 126] lc.length (fun g3 v26 s126 wk => ∃ k : Nat, v26 = .bool ((lc.take k).all (fitB off s (t : Int))) ∧ s126 = .int .i64 k ∧ Aside0 (k ≤ lc.length ∧ lc.length - k ≤ g3) ∧ Aside0 (Below wB.heap.size wB wk))
          case atStart => exact ⟨0, rfl, rfl, ⟨by omega, by omega⟩, ⟨Below.refl _ _⟩⟩
          case round =>
           obtain ⟨k, rfl, rfl, HK, HIK⟩ := hrel
           by_cases hk : k < lc.length
           · have z1 : decide ((k : Int) < (lc.length : Int)) = true := decide_eq_true (by omega)
             have HKK := Aside0.mk hk
             have HAT := Aside0.mk (all_take (fitB off s (t : Int)) lc k hk)
             obtain ⟨ap, ep, hxp⟩ := Kd.at_int (Kd.C_below (Kd.C_below HCC.out HI.out) HIK.out) (k : Int) (by omega) (by omega)
             subst ep
             rw [Int.toNat_natCast] at hxp
             have HPP := Aside0.mk (HVL.out.2.2 (rd lc (k : Int)) (by unfold rd; rw [Int.toNat_natCast, List.getD_eq_getElem?_getD, List.getElem?_eq_getElem hk]; exact List.getElem_mem hk))
             generalize rd lc (k : Int) = p at hxp HAT HPP
             generalize (lc.take k).all (fitB off s (t : Int)) = al at HAT ⊢
             cases al with
             | true =>
               have k0 : wr.cell? ⟨g7, 0, none⟩ = some (.int .i64 off) := (blk_cell (blk_below (blk_below (blk_below BX.out HW.out) HI.out) HIK.out) 0).trans rfl
               have HNF := Aside0.mk (near_f p s (t : Int) off (by have := HSS.out; omega) HPP.out (by have := HTT.out; have := HSS.out; omega) (by have := HO.out; omega))
               go_wp2_with fail
               refine (pianolalaw01_near.calls 40 p s (t : Int) off (fitB off s (t : Int) p) _ HNF.out).mono ?_
               rintro e wN ⟨rfl, hd⟩
               have hI := below_then HIK.out HIK.out.size hd.below
               replace HIK := Aside0.mk hI
               clear hd hI hxp k0
               go_wp2
               go_roundg (lc.length - (k + 1))
               case measure => have := HK.out; have := HKK.out; omega
               case rel => exact ⟨k + 1, by rw [HAT.out]; rfl, by rw [w64' _ (by omega) (by have := HVL.out; have := HKK.out; omega)]; rfl, ⟨by have := HKK.out; omega, Nat.le_refl _⟩, HIK⟩
             | false =>
               go_wp2
               go_roundg (lc.length - (k + 1))
               case measure => have := HK.out; have := HKK.out; omega
               case rel => exact ⟨k + 1, by rw [HAT.out]; rfl, by rw [w64' _ (by omega) (by have := HVL.out; have := HKK.out; omega)]; rfl, ⟨by have := HKK.out; omega, Nat.le_refl _⟩, HIK⟩
           · have z1 : decide ((k : Int) < (lc.length : Int)) = false := decide_eq_false (by omega)
             have hke : k = lc.length := by have := HK.out; omega
             subst hke
             rw [List.take_length]
             have HSU := offsTo_succ (arcsOf off s lc) s t
             rw [offsB_fits off s (t : Int) lc (by have := HSS.out; omega) HO.out.1] at HSU
             replace HSU := Aside0.mk HSU
             have HOL := Aside0.mk (offsTo_length (arcsOf off s lc) s t)
             generalize lc.all (fitB off s (t : Int)) = al at HSU ⊢
             cases al with
             | true =>
               go_wp2_with ((with_reducible refine gate_builtin (b := .append) (xs := #[.tmp 141, .tmp 143]) rfl ?_); at_builtin; refine Kd.R_append dN (w0 := wA) wA.heap.size rfl (.tmp 141) (.tmp 143) 34 3 (.int .i64 0) 8 rfl Try.underlying34 info3 rfl (by decide) (by omega) u24 (offsTo (arcsOf off s lc) s t) (t : Int) [.int .i64 (t : Int)] (fun _ => True) (fun _ => False) rfl rfl ?aP (fun _ hk => hk.elim) ?aF ?aO ?aB ?aS ?aL ?_; (case aP => exact rfl); (case aB => exact below_then HI.out HI.out.size HIK.out); (case aF => exact fun _ _ => trivial); (case aO => exact Kd.R_mono (Kd.R_below HWT.out HIK.out) (fun _ _ => by first | trivial | exact ⟨trivial, id⟩)); (case aS => exact (below_then HI.out HI.out.size HIK.out).size); (case aL => have h1 := HOL.out; have h2 := HTT.out; have h3 := HSS.out; omega); intro v5 w5 ho_ hb_ hg_ hat_; have HSN := Aside0.mk ho_; have HIN := Aside0.mk hb_; clear ho_ hb_ hg_ hat_)
               go_roundg (s.toNat - (t + 1))
               case measure => have := HT.out; have := HTT.out; omega
               case rel => exact ⟨t + 1, by rw [w64' _ (by omega) (by have := HSS.out; have := HTT.out; omega)]; rfl, ⟨by have := HTT.out; omega, Nat.le_refl _⟩, ⟨by rw [HSU.out, if_pos trivial]; exact HSN.out⟩, HIN⟩
             | false =>
               go_wp2
               go_roundg (s.toNat - (t + 1))
               case measure => have := HT.out; have := HTT.out; omega
               case rel => exact ⟨t + 1, by rw [w64' _ (by omega) (by have := HSS.out; have := HTT.out; omega)]; rfl, ⟨by have := HTT.out; omega, Nat.le_refl _⟩, ⟨by rw [HSU.out, if_neg (by simp), List.append_nil]; exact Kd.R_below HWT.out HIK.out⟩, ⟨below_then HI.out HI.out.size HIK.out⟩⟩
        · have u1 : decide ((t : Int) < s) = false := decide_eq_false ht
          have hte : t = s.toNat := by have := HT.out; omega
          subst hte
          have hR : Kd.R dN 3 wr wA.heap.size (fun _ => True) u24 O := by rw [HOO.out]; exact HWT.out
          obtain ⟨AW, cW, rfl, hcW, hCW⟩ := Kd.R_reads hR
          have HCW := Aside0.mk hCW
          have HW2 := Aside0.mk (below_then HW.out HW.out.size HI.out)
          have HOL := Aside0.mk (show O.length ≤ 45 by have := offsTo_length (arcsOf off s lc) s s.toNat; have h2 := HSS.out; rw [HOO.out]; unfold offsOf; omega)
          have HNU := Aside0.mk (numbers_f O (by have := HOL.out; omega) 4000 (by have := HOL.out; omega))
          clear hR hCW HWT
          go_wp2_with fail
          refine (pianolalaw01_numbers.calls 4000 AO cO O AW cW O true _ (Kd.C_below HCO.out HI.out) hcO HCW.out hcW HNU.out).mono ?_
          rintro e wM ⟨rfl, hd⟩
          have hb := hd.below
          replace HCW := Aside0.mk (Kd.C_below HCW.out hb)
          replace HCC := Aside0.mk (Kd.C_below (Kd.C_below HCC.out HI.out) hb)
          have hW := below_then HW2.out HW2.out.size hb
          replace HW2 := Aside0.mk hW
          clear hb hd hW HNU HCO u1 ht HI HW HT
          obtain ⟨pv, hpv⟩ : ∃ pv, pv = (cs'.take j).all fun l => decide (0 < (offsOf off s l).length) := ⟨_, rfl⟩
          rw [← hpv] at HTA ⊢
          clear hpv
          by_cases hz : O.length = 0
          · have z1 : ((O.length : Int) == 0) = true := by rw [hz]; rfl
            have z2 : decide ((0 : Int) < (O.length : Int)) = false := decide_eq_false (by omega)
            have HTB := Aside0.mk (show ((cs'.take (j + 1)).all fun l => decide (0 < (offsOf off s l).length)) = false by rw [HTA.out, decide_eq_false (by omega), Bool.and_false])
            cases pv with
            | true =>
              go_wp2
              go_roundg (cs'.length - (j + 1))
              case measure => have := HJ.out; have := HJJ.out; omega
              case rel => exact ⟨j + 1, by rw [HTB.out], by rw [w64' _ (by omega) (by have := HLC.out; have := HL.out; have := HJJ.out; omega)]; rfl, ⟨by have := HJJ.out; omega, Nat.le_refl _⟩, HW2⟩
            | false =>
              go_wp2
              go_roundg (cs'.length - (j + 1))
              case measure => have := HJ.out; have := HJJ.out; omega
              case rel => exact ⟨j + 1, by rw [HTB.out], by rw [w64' _ (by omega) (by have := HLC.out; have := HL.out; have := HJJ.out; omega)]; rfl, ⟨by have := HJJ.out; omega, Nat.le_refl _⟩, HW2⟩
          · have z1 : ((O.length : Int) == 0) = false := beq_eq_false_iff_ne.mpr (by omega)
            have z2 : decide ((0 : Int) < (O.length : Int)) = true := decide_eq_true (by omega)
            have HTB := Aside0.mk (show ((cs'.take (j + 1)).all fun l => decide (0 < (offsOf off s l).length)) = pv by rw [HTA.out, decide_eq_true (by omega), Bool.and_true])
            have HZ := Aside0.mk (show 0 < O.length by omega)
            obtain ⟨aw, ew, hxw⟩ := Kd.at_int HCW.out 0 (by omega) (by omega)
            subst ew
            have HRW := Aside0.mk (HRO.out (rd O 0) (by have h0 := HZ.out; unfold rd; rw [List.getD_eq_getElem?_getD, List.getElem?_eq_getElem (show (0 : Int).toNat < O.length by simpa using h0)]; exact List.getElem_mem _))
            have HO0 := Aside0.mk (show 0 ≤ rd O 0 ∧ rd O 0 < s by
             have h0 := HZ.out
             have hm : rd O 0 ∈ offsOf off s lc := by rw [← HOO.out]; unfold rd; rw [List.getD_eq_getElem?_getD, List.getElem?_eq_getElem (show (0 : Int).toNat < O.length by simpa using h0)]; exact List.getElem_mem _
             exact ((offs_mem' off s _ lc (by have := HSS.out; omega) HO.out.1).1 hm).1)
            have HNR := Aside0.mk (fun (p x : Int) => in_row off s (rd O 0) p x (by have := HSS.out; omega))
            obtain ⟨RR, hRR⟩ : ∃ RR, RR = lc.map (rowAt off s (rd O 0)) := ⟨_, rfl⟩
            rw [← hRR] at HRW
            have HRR := Aside0.mk (show ∀ k : Nat, k < lc.length → k < RR.length ∧ (rd_T46 RR (k : Int)).f0 = lowRow off (rd lc (k : Int)) s (rd O 0) ∧ (rd_T46 RR (k : Int)).f1 = highRow off (rd lc (k : Int)) s (rd O 0) from fun k hk => by
             have hk2 : k < RR.length := by rw [hRR, List.length_map]; exact hk
             have e1 : rd_T46 RR (k : Int) = rowAt off s (rd O 0) (rd lc (k : Int)) := by
              have e0 : rd lc (k : Int) = lc[k] := by unfold rd; rw [Int.toNat_natCast, List.getD_eq_getElem?_getD, List.getElem?_eq_getElem hk]; rfl
              rw [e0]
              unfold rd_T46
              rw [Int.toNat_natCast, hRR, List.getD_eq_getElem?_getD, List.getElem?_map, List.getElem?_eq_getElem hk]
              rfl
             rw [e1]
             exact ⟨hk2, rfl, rfl⟩)
            have HRL := Aside0.mk (show RR.length = lc.length by rw [hRR, List.length_map])
            generalize rd O 0 = o0 at hxw HRW HO0 HNR HRR
            clear hRR
            cases pv with
            | true =>
              go_upto_region 42 with fail
              replace HCW := Aside0.mk (Kd.C_drew HCW.out)
              have n0 : 0 < O.length := HZ.out
              refine start_ (n := 12) (S := fun w' => w'.cell? ⟨g7, 0, none⟩ = some (.int .i64 off) ∧ w'.cell? ⟨g7, 1, none⟩ = some (.slice (some ⟨gx, 0, none⟩) cs'.length cx) ∧ w'.cell? aw = some (.int .i64 o0)) (ds := []) #[false, false, false, false, false, false, false, false, false, false, false, false] (by kernel_rfl) rfl rfl ⟨(blk_cell (blk_below BX.out HW2.out) 0).trans rfl, (blk_cell (blk_below BX.out HW2.out) 1).trans rfl, by have h := hxw; rw [show (0 : Int).toNat = 0 from rfl, Addr.add_zero'] at h; exact h⟩ (fun hHeld => ?_)
              refine with_tabW exact_tab42 exact_bits42 (fun HT_ HW_ => ?_)
              replace HW2 := Aside0.mk (below_drew1 HW2.out)
              replace HCC := Aside0.mk (Kd.C_drew HCC.out)
              replace hxw : wM.drew.cell? (aw.add (0 : Int).toNat) = _ := hxw
              generalize wM.drew = wD at HW2 HCW HCC hxw hHeld ⊢
              refine take_ (i := 0) (N := some 159) (v := ?_) (a' := ?_) #[true, false, false, false, false, false, false, false, false, false, false, false] rfl rfl (take_ofW HT_.out HW_.out (by kernel_rfl)) (fun _ _ _ h => h) (Or.inl ⟨by rfl, ?_⟩) hHeld ?_ ?_
              rotate_left
              · rintro w' ⟨s0, s1, s2⟩
                go_simp
                with_reducible rfl
              rotate_left
              · simp only [Act.put, List.setIfInBounds_toArray, List.set_cons_zero, List.set_cons_succ, i64_w, i32_w]
                rfl
              refine pure_ (i := 1) (N := some 160) (v := ?_) (a' := ?_) #[true, true, false, false, false, false, false, false, false, false, false, false] rfl rfl (any_of HT_.out (by kernel_rfl)) (fun _ _ _ h => h) (Or.inl ⟨by rfl, ?_⟩) ?_ ?_
              rotate_left
              · intro w'
                go_simp
                with_reducible rfl
              rotate_left
              · simp only [Act.put, List.setIfInBounds_toArray, List.set_cons_zero, List.set_cons_succ, i64_w, i32_w]
                rfl
              refine pure_ (i := 2) (N := some 161) (v := ?_) (a' := ?_) #[true, true, true, false, false, false, false, false, false, false, false, false] rfl rfl (any_of HT_.out (by kernel_rfl)) (fun _ _ _ h => h) (Or.inl ⟨by rfl, ?_⟩) ?_ ?_
              rotate_left
              · intro w'
                go_simp
                with_reducible rfl
              rotate_left
              · simp only [Act.put, List.setIfInBounds_toArray, List.set_cons_zero, List.set_cons_succ, i64_w, i32_w]
                rfl
              refine pure_ (i := 3) (N := some 162) (v := ?_) (a' := ?_) #[true, true, true, true, false, false, false, false, false, false, false, false] rfl rfl (any_of HT_.out (by kernel_rfl)) (fun _ _ _ h => h) (Or.inl ⟨by rfl, ?_⟩) ?_ ?_
              rotate_left
              · intro w'
                go_simp
                with_reducible rfl
              rotate_left
              · simp only [Act.put, List.setIfInBounds_toArray, List.set_cons_zero, List.set_cons_succ, i64_w, i32_w]
                rfl
              refine pure_ (i := 4) (N := some 163) (v := ?_) (a' := ?_) #[true, true, true, true, true, false, false, false, false, false, false, false] rfl rfl (any_of HT_.out (by kernel_rfl)) (fun _ _ _ h => h) (Or.inl ⟨by rfl, ?_⟩) ?_ ?_
              rotate_left
              · intro w'
                go_simp
                with_reducible rfl
              rotate_left
              · simp only [Act.put, List.setIfInBounds_toArray, List.set_cons_zero, List.set_cons_succ, i64_w, i32_w]
                rfl
              refine take_ (i := 5) (N := some 164) (v := ?_) (a' := ?_) #[true, true, true, true, true, true, false, false, false, false, false, false] rfl rfl (take_ofW HT_.out HW_.out (by kernel_rfl)) (fun _ _ _ h => h) (Or.inl ⟨by rfl, ?_⟩) hHeld ?_ ?_
              rotate_left
              · rintro w' ⟨s0, s1, s2⟩
                go_simp
                with_reducible rfl
              rotate_left
              · simp only [Act.put, List.setIfInBounds_toArray, List.set_cons_zero, List.set_cons_succ, i64_w, i32_w]
                rfl
              refine one_ (i := 6) (N := some 165) #[true, true, true, true, true, true, true, false, false, false, false, false] rfl rfl (one_of HT_.out (by kernel_rfl)) (by decide) (fun K hK => ?_)
              refine goes_ Try.func23 (by kernel_rfl) rfl #[.agg #[.int .i64 off, .slice (some ⟨gx, 0, none⟩) cs'.length cx], .int .i64 (j : Int), .int .i64 s, .int .i64 o0] (by rfl) rfl rfl (by (try simp only [List.map_toArray, List.map_cons, List.map_nil]); first | done | rfl) ?_
              refine (step_Rows.calls 20 off (some ⟨gx, 0, none⟩) cx cs' (j : Int) s o0 RR 0 _ (Kd.C_below HC.out HW2.out) hcx HRW.out).mono ?_
              rintro e wE ⟨v, rfl, hR, hb⟩
              refine ⟨_, rfl, ?_⟩
              obtain ⟨AQ, cQ, rfl, hcQ, hCQ⟩ := Kd.R_reads hR
              have HCQ := Aside0.mk hCQ
              replace hxw := (hb.cell (World.block_lt_of_cell? wD _ hxw)).trans hxw
              replace HCW := Aside0.mk (Kd.C_below HCW.out hb)
              replace HCC := Aside0.mk (Kd.C_below HCC.out hb)
              have hW := below_then HW2.out HW2.out.size hb
              replace HW2 := Aside0.mk hW
              clear hR hCQ hb hW
              have hxv : wE.cell? aw = some (.int .i64 o0) := by have h := hxw; rw [show (0 : Int).toNat = 0 from rfl, Addr.add_zero'] at h; exact h
              refine hK.out _ _ ⟨(blk_cell (blk_below BX.out HW2.out) 0).trans rfl, (blk_cell (blk_below BX.out HW2.out) 1).trans rfl, hxv⟩ (fun hHeld => ?_)
              clear hK K
              refine norm_ (a' := ?_) ?_ ?_
              rotate_left
              · show Act.put _ (some 165) _ = _
                simp only [Act.put, List.setIfInBounds_toArray, List.set_cons_zero, List.set_cons_succ, i64_w, i32_w]
                rfl
              refine pure_ (i := 7) (N := some 158) (v := ?_) (a' := ?_) #[true, true, true, true, true, true, true, true, false, false, false, false] rfl rfl (any_of HT_.out (by kernel_rfl)) (fun _ _ _ h => h) (Or.inl ⟨by rfl, ?_⟩) ?_ ?_
              rotate_left
              · intro w'
                go_simp
                with_reducible rfl
              rotate_left
              · simp only [Act.put, List.setIfInBounds_toArray, List.set_cons_zero, List.set_cons_succ, i64_w, i32_w]
                rfl
              refine pure_ (i := 8) (N := some 166) (v := ?_) (a' := ?_) #[true, true, true, true, true, true, true, true, true, false, false, false] rfl rfl (any_of HT_.out (by kernel_rfl)) (fun _ _ _ h => h) (Or.inl ⟨by rfl, ?_⟩) ?_ ?_
              rotate_left
              · intro w'
                go_simp
                with_reducible rfl
              rotate_left
              · simp only [Act.put, List.setIfInBounds_toArray, List.set_cons_zero, List.set_cons_succ, i64_w, i32_w]
                rfl
              refine pure_ (i := 9) (N := some 167) (v := ?_) (a' := ?_) #[true, true, true, true, true, true, true, true, true, true, false, false] rfl rfl (any_of HT_.out (by kernel_rfl)) (fun _ _ _ h => h) (Or.inl ⟨by rfl, ?_⟩) ?_ ?_
              rotate_left
              · intro w'
                go_simp
                with_reducible rfl
              rotate_left
              · simp only [Act.put, List.setIfInBounds_toArray, List.set_cons_zero, List.set_cons_succ, i64_w, i32_w]
                rfl
              refine pure_ (i := 10) (N := some 29) (v := ?_) (a' := ?_) #[true, true, true, true, true, true, true, true, true, true, true, false] rfl rfl (any_of HT_.out (by kernel_rfl)) (fun _ _ _ h => h) (Or.inl ⟨by rfl, ?_⟩) ?_ ?_
              rotate_left
              · intro w'
                go_simp
                with_reducible rfl
              rotate_left
              · simp only [Act.put, List.setIfInBounds_toArray, List.set_cons_zero, List.set_cons_succ, i64_w, i32_w]
                rfl
              refine pure_ (i := 11) (N := some 23) (v := ?_) (a' := ?_) #[true, true, true, true, true, true, true, true, true, true, true, true] rfl rfl (any_of HT_.out (by kernel_rfl)) (fun _ _ _ h => h) (Or.inl ⟨by rfl, ?_⟩) ?_ ?_
              rotate_left
              · intro w'
                go_simp
                with_reducible rfl
              rotate_left
              · simp only [Act.put, List.setIfInBounds_toArray, List.set_cons_zero, List.set_cons_succ, i64_w, i32_w]
                rfl
              refine done_ (done_of HT_.out (by kernel_rfl)) ?_
              clear HT_ HW_ hHeld hxw
              have n2 : ((RR.length : Int) != (lc.length : Int)) = false := by rw [HRL.out]; simp
              have HXV := Aside0.mk hxv
              clear hxv n0 z1 z2 hz
              go_wp2
              clear n2
              go_loopg [179] lc.length (fun g5 s179 wi => ∃ k : Nat, s179 = .int .i64 k ∧ Aside0 (k ≤ lc.length ∧ lc.length - k ≤ g5) ∧ Aside0 (Below wE.heap.size wE wi))
              case atStart => exact ⟨0, rfl, ⟨by omega, by omega⟩, ⟨Below.refl _ _⟩⟩
              case round =>
               obtain ⟨k, rfl, HK, HI⟩ := hrel
               by_cases hk : k < lc.length
               · have u1 : decide ((k : Int) < (lc.length : Int)) = true := decide_eq_true (by omega)
                 have HKK := Aside0.mk hk
                 obtain ⟨ap, ep, hxp⟩ := Kd.at_int (Kd.C_below HCC.out HI.out) (k : Int) (by omega) (by omega)
                 subst ep
                 obtain ⟨aq, eq, hq0, hq1⟩ := at_T46 (Kd.C_below HCQ.out HI.out) (k : Int) (by omega) (by have := HRL.out; omega)
                 subst eq
                 rw [Int.toNat_natCast] at hxp hq0 hq1
                 obtain ⟨hkr, hr0, hr1⟩ := HRR.out k hk
                 rw [hr0] at hq0
                 rw [hr1] at hq1
                 have HKR := Aside0.mk hkr
                 have HPP := Aside0.mk (HVL.out.2.2 (rd lc (k : Int)) (by unfold rd; rw [Int.toNat_natCast, List.getD_eq_getElem?_getD, List.getElem?_eq_getElem hk]; exact List.getElem_mem hk))
                 generalize rd lc (k : Int) = p at hxp hq0 hq1 HPP
                 have HNP := Aside0.mk (fun x => HNR.out p x)
                 generalize lowRow off p s o0 = lo at hq0 HNP
                 generalize highRow off p s o0 = hi at hq1 HNP
                 have HQ0 := Aside0.mk hq0
                 have HQ1 := Aside0.mk hq1
                 have hsm := tdiv_small p s 1000000 (by have := HSS.out; omega) (by have := HPP.out; omega) (by have := HPP.out; omega) (by omega)
                 have hsn := Int.tdiv_nonneg HPP.out.1 (show 0 ≤ s by have := HSS.out; omega)
                 obtain ⟨H, hH⟩ : ∃ H, H = p.tdiv s + 8 := ⟨_, rfl⟩
                 have HHH := Aside0.mk (show wrap64 (wrap64 (p.tdiv s) + 8) = H by rw [w64' (p.tdiv s) (by omega) (by omega), w64' _ (by omega) (by omega), hH])
                 have HHB := Aside0.mk (show 8 ≤ H ∧ H ≤ 1000008 by omega)
                 clear hr0 hr1 hkr hq0 hq1 hsm hsn hH
                 generalize wr = wF at HI HQ0 HQ1 hxp ⊢
                 go_wp2
                 clear hxp u1
                 go_loopg [32] (H + 9).toNat (fun g6 v32 wi => ∃ x : Int, v32 = .int .i64 x ∧ Aside0 ((-8 ≤ x ∧ x ≤ H + 1) ∧ (H + 1 - x).toNat ≤ g6) ∧ Aside0 (Below wF.heap.size wF wi))
                 case atStart => exact ⟨-8, rfl, ⟨⟨by omega, by have := HHB.out; omega⟩, by omega⟩, ⟨Below.refl _ _⟩⟩
                 case round =>
                  obtain ⟨x, rfl, HX, HIX⟩ := hrel
                  have t4 : ¬ s = 0 := by have := HSS.out; omega
                  by_cases hx : x ≤ H
                  · have u2 : decide (x ≤ wrap64 (wrap64 (p.tdiv s) + 8)) = true := by rw [HHH.out]; exact decide_eq_true hx
                    have HXH := Aside0.mk hx
                    have n0 : 0 < O.length := HZ.out
                    have hxv : wr.cell? aw = some (.int .i64 o0) := ((below_then HI.out HI.out.size HIX.out).cell (World.block_lt_of_cell? wE _ HXV.out)).trans HXV.out
                    go_upto_region 52 with fail
                    have m1 : x * s ≤ 1000008 * 45 := Int.le_trans (Int.mul_le_mul_of_nonneg_right (show x ≤ 1000008 by have := HHB.out; omega) (by have := HSS.out; omega)) (Int.mul_le_mul_of_nonneg_left (by have := HSS.out; omega) (by omega))
                    have m2 : -8 * 45 ≤ x * s := Int.le_trans (by have := Int.mul_le_mul_of_nonneg_left (show s ≤ 45 by have := HSS.out; omega) (show (0:Int) ≤ 8 by omega); omega) (Int.mul_le_mul_of_nonneg_right HX.out.1.1 (by have := HSS.out; omega))
                    have ed : wrap64 (wrap64 (p - o0) - wrap64 (x * s)) = p - o0 - x * s := by
                     have h1 := HPP.out
                     have h2 := HO0.out
                     have h3 := HSS.out
                     rw [w64' (p - o0) (by omega) (by omega), w64' (x * s) (by omega) (by omega), w64' _ (by omega) (by omega)]
                    rw [ed]
                    have HDX := Aside0.mk (HNP.out x)
                    have HDB := Aside0.mk (show -100000000 ≤ p - o0 - x * s ∧ p - o0 - x * s ≤ 100000000 by have := HPP.out; have := HO0.out; have := HSS.out; omega)
                    generalize p - o0 - x * s = dd at HDX HDB ⊢
                    clear ed m1 m2 u2 t4 hxv
                    have hnd : wrap64 (-dd) = -dd := w64' _ (by have := HDB.out; omega) (by have := HDB.out; omega)
                    have k0 : wr.cell? ⟨g7, 0, none⟩ = some (.int .i64 off) := (blk_cell (blk_below BX.out (below_then HW2.out HW2.out.size (below_then HI.out HI.out.size HIX.out))) 0).trans rfl
                    have hq0 := (HIX.out.cell (World.block_lt_of_cell? wF _ HQ0.out)).trans HQ0.out
                    have hq1 := (HIX.out.cell (World.block_lt_of_cell? wF _ HQ1.out)).trans HQ1.out
                    have n3 : k < RR.length := HKR.out
                    have HND := Aside0.mk hnd
                    by_cases g1 : dd ≤ off
                    · by_cases g2 : -dd ≤ off
                      · skip
                        have g34 := HDX.out.1 ⟨g1, g2⟩
                        have g3 : lo ≤ x := g34.1
                        have g4 : x ≤ hi := g34.2
                        clear g34
                        have v1 : decide (dd ≤ off) = true := decide_eq_true g1
                        have v2 : decide (wrap64 (-dd) ≤ off) = true := by rw [HND.out]; exact decide_eq_true g2
                        have v3 : decide (lo ≤ x) = true := decide_eq_true g3
                        have v4 : decide (x ≤ hi) = true := decide_eq_true g4
                        clear g1 g3 hnd hx g2 g4 n0
                        go_quiet (fail)
                        go_wp2
                        go_roundg (H + 1 - (x + 1)).toNat
                        case measure => have := HX.out; have := HXH.out; omega
                        case rel => exact ⟨x + 1, by rw [w64' _ (by have := HX.out; omega) (by have := HX.out; have := HHB.out; omega)], ⟨⟨by have := HX.out; omega, by have := HXH.out; omega⟩, Nat.le_refl _⟩, ⟨pw_below_drewN HIX.out _⟩⟩
                      · skip
                        have g34 : ¬ (lo ≤ x ∧ x ≤ hi) := fun h => g2 (HDX.out.2 h).2
                        by_cases g3 : lo ≤ x
                        · have g4 : ¬ x ≤ hi := fun h => g34 ⟨g3, h⟩
                          clear g34
                          have v1 : decide (dd ≤ off) = true := decide_eq_true g1
                          have v2 : decide (wrap64 (-dd) ≤ off) = false := by rw [HND.out]; exact decide_eq_false g2
                          have v3 : decide (lo ≤ x) = true := decide_eq_true g3
                          have v4 : decide (x ≤ hi) = false := decide_eq_false g4
                          clear g1 g3 hnd hx g2 g4 n0
                          go_quiet (fail)
                          go_wp2
                          go_roundg (H + 1 - (x + 1)).toNat
                          case measure => have := HX.out; have := HXH.out; omega
                          case rel => exact ⟨x + 1, by rw [w64' _ (by have := HX.out; omega) (by have := HX.out; have := HHB.out; omega)], ⟨⟨by have := HX.out; omega, by have := HXH.out; omega⟩, Nat.le_refl _⟩, ⟨pw_below_drewN HIX.out _⟩⟩
                        · clear g34
                          have v1 : decide (dd ≤ off) = true := decide_eq_true g1
                          have v2 : decide (wrap64 (-dd) ≤ off) = false := by rw [HND.out]; exact decide_eq_false g2
                          have v3 : decide (lo ≤ x) = false := decide_eq_false g3
                          clear g1 g3 hnd hx g2 n0
                          go_quiet (fail)
                          go_wp2
                          go_roundg (H + 1 - (x + 1)).toNat
                          case measure => have := HX.out; have := HXH.out; omega
                          case rel => exact ⟨x + 1, by rw [w64' _ (by have := HX.out; omega) (by have := HX.out; have := HHB.out; omega)], ⟨⟨by have := HX.out; omega, by have := HXH.out; omega⟩, Nat.le_refl _⟩, ⟨pw_below_drewN HIX.out _⟩⟩
                    · skip
                      have g34 : ¬ (lo ≤ x ∧ x ≤ hi) := fun h => g1 (HDX.out.2 h).1
                      by_cases g3 : lo ≤ x
                      · have g4 : ¬ x ≤ hi := fun h => g34 ⟨g3, h⟩
                        clear g34
                        have v1 : decide (dd ≤ off) = false := decide_eq_false g1
                        have v3 : decide (lo ≤ x) = true := decide_eq_true g3
                        have v4 : decide (x ≤ hi) = false := decide_eq_false g4
                        clear g1 g3 hnd hx g4 n0
                        go_quiet (fail)
                        go_wp2
                        go_roundg (H + 1 - (x + 1)).toNat
                        case measure => have := HX.out; have := HXH.out; omega
                        case rel => exact ⟨x + 1, by rw [w64' _ (by have := HX.out; omega) (by have := HX.out; have := HHB.out; omega)], ⟨⟨by have := HX.out; omega, by have := HXH.out; omega⟩, Nat.le_refl _⟩, ⟨pw_below_drewN HIX.out _⟩⟩
                      · clear g34
                        have v1 : decide (dd ≤ off) = false := decide_eq_false g1
                        have v3 : decide (lo ≤ x) = false := decide_eq_false g3
                        clear g1 g3 hnd hx n0
                        go_quiet (fail)
                        go_wp2
                        go_roundg (H + 1 - (x + 1)).toNat
                        case measure => have := HX.out; have := HXH.out; omega
                        case rel => exact ⟨x + 1, by rw [w64' _ (by have := HX.out; omega) (by have := HX.out; have := HHB.out; omega)], ⟨⟨by have := HX.out; omega, by have := HXH.out; omega⟩, Nat.le_refl _⟩, ⟨pw_below_drewN HIX.out _⟩⟩
                  · have u2 : decide (x ≤ wrap64 (wrap64 (p.tdiv s) + 8)) = false := by rw [HHH.out]; exact decide_eq_false hx
                    go_wp2
                    go_roundg (lc.length - (k + 1))
                    case measure => have := HK.out; have := HKK.out; omega
                    case rel => exact ⟨k + 1, by rw [w64' _ (by omega) (by have := HVL.out; have := HKK.out; omega)]; rfl, ⟨by have := HKK.out; omega, Nat.le_refl _⟩, ⟨below_then HI.out HI.out.size HIX.out⟩⟩
               · have u1 : decide ((k : Int) < (lc.length : Int)) = false := decide_eq_false (by omega)
                 have HW3 := Aside0.mk (below_then HW2.out HW2.out.size HI.out)
                 go_wp2
                 go_roundg (cs'.length - (j + 1))
                 case measure => have := HJ.out; have := HJJ.out; omega
                 case rel => exact ⟨j + 1, by first | (rw [HTB.out]; done) | rw [HTB.out, decide_eq_true HZ.out], by rw [w64' _ (by omega) (by have := HLC.out; have := HL.out; have := HJJ.out; omega)]; rfl, ⟨by have := HJJ.out; omega, Nat.le_refl _⟩, HW3⟩
            | false =>
              go_upto_region 42 with fail
              replace HCW := Aside0.mk (Kd.C_drew HCW.out)
              have n0 : 0 < O.length := HZ.out
              refine start_ (n := 12) (S := fun w' => w'.cell? ⟨g7, 0, none⟩ = some (.int .i64 off) ∧ w'.cell? ⟨g7, 1, none⟩ = some (.slice (some ⟨gx, 0, none⟩) cs'.length cx) ∧ w'.cell? aw = some (.int .i64 o0)) (ds := []) #[false, false, false, false, false, false, false, false, false, false, false, false] (by kernel_rfl) rfl rfl ⟨(blk_cell (blk_below BX.out HW2.out) 0).trans rfl, (blk_cell (blk_below BX.out HW2.out) 1).trans rfl, by have h := hxw; rw [show (0 : Int).toNat = 0 from rfl, Addr.add_zero'] at h; exact h⟩ (fun hHeld => ?_)
              refine with_tabW exact_tab42 exact_bits42 (fun HT_ HW_ => ?_)
              replace HW2 := Aside0.mk (below_drew1 HW2.out)
              replace HCC := Aside0.mk (Kd.C_drew HCC.out)
              replace hxw : wM.drew.cell? (aw.add (0 : Int).toNat) = _ := hxw
              generalize wM.drew = wD at HW2 HCW HCC hxw hHeld ⊢
              refine take_ (i := 0) (N := some 159) (v := ?_) (a' := ?_) #[true, false, false, false, false, false, false, false, false, false, false, false] rfl rfl (take_ofW HT_.out HW_.out (by kernel_rfl)) (fun _ _ _ h => h) (Or.inl ⟨by rfl, ?_⟩) hHeld ?_ ?_
              rotate_left
              · rintro w' ⟨s0, s1, s2⟩
                go_simp
                with_reducible rfl
              rotate_left
              · simp only [Act.put, List.setIfInBounds_toArray, List.set_cons_zero, List.set_cons_succ, i64_w, i32_w]
                rfl
              refine pure_ (i := 1) (N := some 160) (v := ?_) (a' := ?_) #[true, true, false, false, false, false, false, false, false, false, false, false] rfl rfl (any_of HT_.out (by kernel_rfl)) (fun _ _ _ h => h) (Or.inl ⟨by rfl, ?_⟩) ?_ ?_
              rotate_left
              · intro w'
                go_simp
                with_reducible rfl
              rotate_left
              · simp only [Act.put, List.setIfInBounds_toArray, List.set_cons_zero, List.set_cons_succ, i64_w, i32_w]
                rfl
              refine pure_ (i := 2) (N := some 161) (v := ?_) (a' := ?_) #[true, true, true, false, false, false, false, false, false, false, false, false] rfl rfl (any_of HT_.out (by kernel_rfl)) (fun _ _ _ h => h) (Or.inl ⟨by rfl, ?_⟩) ?_ ?_
              rotate_left
              · intro w'
                go_simp
                with_reducible rfl
              rotate_left
              · simp only [Act.put, List.setIfInBounds_toArray, List.set_cons_zero, List.set_cons_succ, i64_w, i32_w]
                rfl
              refine pure_ (i := 3) (N := some 162) (v := ?_) (a' := ?_) #[true, true, true, true, false, false, false, false, false, false, false, false] rfl rfl (any_of HT_.out (by kernel_rfl)) (fun _ _ _ h => h) (Or.inl ⟨by rfl, ?_⟩) ?_ ?_
              rotate_left
              · intro w'
                go_simp
                with_reducible rfl
              rotate_left
              · simp only [Act.put, List.setIfInBounds_toArray, List.set_cons_zero, List.set_cons_succ, i64_w, i32_w]
                rfl
              refine pure_ (i := 4) (N := some 163) (v := ?_) (a' := ?_) #[true, true, true, true, true, false, false, false, false, false, false, false] rfl rfl (any_of HT_.out (by kernel_rfl)) (fun _ _ _ h => h) (Or.inl ⟨by rfl, ?_⟩) ?_ ?_
              rotate_left
              · intro w'
                go_simp
                with_reducible rfl
              rotate_left
              · simp only [Act.put, List.setIfInBounds_toArray, List.set_cons_zero, List.set_cons_succ, i64_w, i32_w]
                rfl
              refine take_ (i := 5) (N := some 164) (v := ?_) (a' := ?_) #[true, true, true, true, true, true, false, false, false, false, false, false] rfl rfl (take_ofW HT_.out HW_.out (by kernel_rfl)) (fun _ _ _ h => h) (Or.inl ⟨by rfl, ?_⟩) hHeld ?_ ?_
              rotate_left
              · rintro w' ⟨s0, s1, s2⟩
                go_simp
                with_reducible rfl
              rotate_left
              · simp only [Act.put, List.setIfInBounds_toArray, List.set_cons_zero, List.set_cons_succ, i64_w, i32_w]
                rfl
              refine one_ (i := 6) (N := some 165) #[true, true, true, true, true, true, true, false, false, false, false, false] rfl rfl (one_of HT_.out (by kernel_rfl)) (by decide) (fun K hK => ?_)
              refine goes_ Try.func23 (by kernel_rfl) rfl #[.agg #[.int .i64 off, .slice (some ⟨gx, 0, none⟩) cs'.length cx], .int .i64 (j : Int), .int .i64 s, .int .i64 o0] (by rfl) rfl rfl (by (try simp only [List.map_toArray, List.map_cons, List.map_nil]); first | done | rfl) ?_
              refine (step_Rows.calls 20 off (some ⟨gx, 0, none⟩) cx cs' (j : Int) s o0 RR 0 _ (Kd.C_below HC.out HW2.out) hcx HRW.out).mono ?_
              rintro e wE ⟨v, rfl, hR, hb⟩
              refine ⟨_, rfl, ?_⟩
              obtain ⟨AQ, cQ, rfl, hcQ, hCQ⟩ := Kd.R_reads hR
              have HCQ := Aside0.mk hCQ
              replace hxw := (hb.cell (World.block_lt_of_cell? wD _ hxw)).trans hxw
              replace HCW := Aside0.mk (Kd.C_below HCW.out hb)
              replace HCC := Aside0.mk (Kd.C_below HCC.out hb)
              have hW := below_then HW2.out HW2.out.size hb
              replace HW2 := Aside0.mk hW
              clear hR hCQ hb hW
              have hxv : wE.cell? aw = some (.int .i64 o0) := by have h := hxw; rw [show (0 : Int).toNat = 0 from rfl, Addr.add_zero'] at h; exact h
              refine hK.out _ _ ⟨(blk_cell (blk_below BX.out HW2.out) 0).trans rfl, (blk_cell (blk_below BX.out HW2.out) 1).trans rfl, hxv⟩ (fun hHeld => ?_)
              clear hK K
              refine norm_ (a' := ?_) ?_ ?_
              rotate_left
              · show Act.put _ (some 165) _ = _
                simp only [Act.put, List.setIfInBounds_toArray, List.set_cons_zero, List.set_cons_succ, i64_w, i32_w]
                rfl
              refine pure_ (i := 7) (N := some 158) (v := ?_) (a' := ?_) #[true, true, true, true, true, true, true, true, false, false, false, false] rfl rfl (any_of HT_.out (by kernel_rfl)) (fun _ _ _ h => h) (Or.inl ⟨by rfl, ?_⟩) ?_ ?_
              rotate_left
              · intro w'
                go_simp
                with_reducible rfl
              rotate_left
              · simp only [Act.put, List.setIfInBounds_toArray, List.set_cons_zero, List.set_cons_succ, i64_w, i32_w]
                rfl
              refine pure_ (i := 8) (N := some 166) (v := ?_) (a' := ?_) #[true, true, true, true, true, true, true, true, true, false, false, false] rfl rfl (any_of HT_.out (by kernel_rfl)) (fun _ _ _ h => h) (Or.inl ⟨by rfl, ?_⟩) ?_ ?_
              rotate_left
              · intro w'
                go_simp
                with_reducible rfl
              rotate_left
              · simp only [Act.put, List.setIfInBounds_toArray, List.set_cons_zero, List.set_cons_succ, i64_w, i32_w]
                rfl
              refine pure_ (i := 9) (N := some 167) (v := ?_) (a' := ?_) #[true, true, true, true, true, true, true, true, true, true, false, false] rfl rfl (any_of HT_.out (by kernel_rfl)) (fun _ _ _ h => h) (Or.inl ⟨by rfl, ?_⟩) ?_ ?_
              rotate_left
              · intro w'
                go_simp
                with_reducible rfl
              rotate_left
              · simp only [Act.put, List.setIfInBounds_toArray, List.set_cons_zero, List.set_cons_succ, i64_w, i32_w]
                rfl
              refine pure_ (i := 10) (N := some 29) (v := ?_) (a' := ?_) #[true, true, true, true, true, true, true, true, true, true, true, false] rfl rfl (any_of HT_.out (by kernel_rfl)) (fun _ _ _ h => h) (Or.inl ⟨by rfl, ?_⟩) ?_ ?_
              rotate_left
              · intro w'
                go_simp
                with_reducible rfl
              rotate_left
              · simp only [Act.put, List.setIfInBounds_toArray, List.set_cons_zero, List.set_cons_succ, i64_w, i32_w]
                rfl
              refine pure_ (i := 11) (N := some 23) (v := ?_) (a' := ?_) #[true, true, true, true, true, true, true, true, true, true, true, true] rfl rfl (any_of HT_.out (by kernel_rfl)) (fun _ _ _ h => h) (Or.inl ⟨by rfl, ?_⟩) ?_ ?_
              rotate_left
              · intro w'
                go_simp
                with_reducible rfl
              rotate_left
              · simp only [Act.put, List.setIfInBounds_toArray, List.set_cons_zero, List.set_cons_succ, i64_w, i32_w]
                rfl
              refine done_ (done_of HT_.out (by kernel_rfl)) ?_
              clear HT_ HW_ hHeld hxw
              have n2 : ((RR.length : Int) != (lc.length : Int)) = false := by rw [HRL.out]; simp
              have HXV := Aside0.mk hxv
              clear hxv n0 z1 z2 hz
              go_wp2
              clear n2
              go_loopg [179] lc.length (fun g5 s179 wi => ∃ k : Nat, s179 = .int .i64 k ∧ Aside0 (k ≤ lc.length ∧ lc.length - k ≤ g5) ∧ Aside0 (Below wE.heap.size wE wi))
              case atStart => exact ⟨0, rfl, ⟨by omega, by omega⟩, ⟨Below.refl _ _⟩⟩
              case round =>
               obtain ⟨k, rfl, HK, HI⟩ := hrel
               by_cases hk : k < lc.length
               · have u1 : decide ((k : Int) < (lc.length : Int)) = true := decide_eq_true (by omega)
                 have HKK := Aside0.mk hk
                 obtain ⟨ap, ep, hxp⟩ := Kd.at_int (Kd.C_below HCC.out HI.out) (k : Int) (by omega) (by omega)
                 subst ep
                 obtain ⟨aq, eq, hq0, hq1⟩ := at_T46 (Kd.C_below HCQ.out HI.out) (k : Int) (by omega) (by have := HRL.out; omega)
                 subst eq
                 rw [Int.toNat_natCast] at hxp hq0 hq1
                 obtain ⟨hkr, hr0, hr1⟩ := HRR.out k hk
                 rw [hr0] at hq0
                 rw [hr1] at hq1
                 have HKR := Aside0.mk hkr
                 have HPP := Aside0.mk (HVL.out.2.2 (rd lc (k : Int)) (by unfold rd; rw [Int.toNat_natCast, List.getD_eq_getElem?_getD, List.getElem?_eq_getElem hk]; exact List.getElem_mem hk))
                 generalize rd lc (k : Int) = p at hxp hq0 hq1 HPP
                 have HNP := Aside0.mk (fun x => HNR.out p x)
                 generalize lowRow off p s o0 = lo at hq0 HNP
                 generalize highRow off p s o0 = hi at hq1 HNP
                 have HQ0 := Aside0.mk hq0
                 have HQ1 := Aside0.mk hq1
                 have hsm := tdiv_small p s 1000000 (by have := HSS.out; omega) (by have := HPP.out; omega) (by have := HPP.out; omega) (by omega)
                 have hsn := Int.tdiv_nonneg HPP.out.1 (show 0 ≤ s by have := HSS.out; omega)
                 obtain ⟨H, hH⟩ : ∃ H, H = p.tdiv s + 8 := ⟨_, rfl⟩
                 have HHH := Aside0.mk (show wrap64 (wrap64 (p.tdiv s) + 8) = H by rw [w64' (p.tdiv s) (by omega) (by omega), w64' _ (by omega) (by omega), hH])
                 have HHB := Aside0.mk (show 8 ≤ H ∧ H ≤ 1000008 by omega)
                 clear hr0 hr1 hkr hq0 hq1 hsm hsn hH
                 generalize wr = wF at HI HQ0 HQ1 hxp ⊢
                 go_wp2
                 clear hxp u1
                 go_loopg [32] (H + 9).toNat (fun g6 v32 wi => ∃ x : Int, v32 = .int .i64 x ∧ Aside0 ((-8 ≤ x ∧ x ≤ H + 1) ∧ (H + 1 - x).toNat ≤ g6) ∧ Aside0 (Below wF.heap.size wF wi))
                 case atStart => exact ⟨-8, rfl, ⟨⟨by omega, by have := HHB.out; omega⟩, by omega⟩, ⟨Below.refl _ _⟩⟩
                 case round =>
                  obtain ⟨x, rfl, HX, HIX⟩ := hrel
                  have t4 : ¬ s = 0 := by have := HSS.out; omega
                  by_cases hx : x ≤ H
                  · have u2 : decide (x ≤ wrap64 (wrap64 (p.tdiv s) + 8)) = true := by rw [HHH.out]; exact decide_eq_true hx
                    have HXH := Aside0.mk hx
                    have n0 : 0 < O.length := HZ.out
                    have hxv : wr.cell? aw = some (.int .i64 o0) := ((below_then HI.out HI.out.size HIX.out).cell (World.block_lt_of_cell? wE _ HXV.out)).trans HXV.out
                    go_upto_region 52 with fail
                    have m1 : x * s ≤ 1000008 * 45 := Int.le_trans (Int.mul_le_mul_of_nonneg_right (show x ≤ 1000008 by have := HHB.out; omega) (by have := HSS.out; omega)) (Int.mul_le_mul_of_nonneg_left (by have := HSS.out; omega) (by omega))
                    have m2 : -8 * 45 ≤ x * s := Int.le_trans (by have := Int.mul_le_mul_of_nonneg_left (show s ≤ 45 by have := HSS.out; omega) (show (0:Int) ≤ 8 by omega); omega) (Int.mul_le_mul_of_nonneg_right HX.out.1.1 (by have := HSS.out; omega))
                    have ed : wrap64 (wrap64 (p - o0) - wrap64 (x * s)) = p - o0 - x * s := by
                     have h1 := HPP.out
                     have h2 := HO0.out
                     have h3 := HSS.out
                     rw [w64' (p - o0) (by omega) (by omega), w64' (x * s) (by omega) (by omega), w64' _ (by omega) (by omega)]
                    rw [ed]
                    have HDX := Aside0.mk (HNP.out x)
                    have HDB := Aside0.mk (show -100000000 ≤ p - o0 - x * s ∧ p - o0 - x * s ≤ 100000000 by have := HPP.out; have := HO0.out; have := HSS.out; omega)
                    generalize p - o0 - x * s = dd at HDX HDB ⊢
                    clear ed m1 m2 u2 t4 hxv
                    have hnd : wrap64 (-dd) = -dd := w64' _ (by have := HDB.out; omega) (by have := HDB.out; omega)
                    have k0 : wr.cell? ⟨g7, 0, none⟩ = some (.int .i64 off) := (blk_cell (blk_below BX.out (below_then HW2.out HW2.out.size (below_then HI.out HI.out.size HIX.out))) 0).trans rfl
                    have hq0 := (HIX.out.cell (World.block_lt_of_cell? wF _ HQ0.out)).trans HQ0.out
                    have hq1 := (HIX.out.cell (World.block_lt_of_cell? wF _ HQ1.out)).trans HQ1.out
                    have n3 : k < RR.length := HKR.out
                    have HND := Aside0.mk hnd
                    by_cases g1 : dd ≤ off
                    · by_cases g2 : -dd ≤ off
                      · skip
                        have g34 := HDX.out.1 ⟨g1, g2⟩
                        have g3 : lo ≤ x := g34.1
                        have g4 : x ≤ hi := g34.2
                        clear g34
                        have v1 : decide (dd ≤ off) = true := decide_eq_true g1
                        have v2 : decide (wrap64 (-dd) ≤ off) = true := by rw [HND.out]; exact decide_eq_true g2
                        have v3 : decide (lo ≤ x) = true := decide_eq_true g3
                        have v4 : decide (x ≤ hi) = true := decide_eq_true g4
                        clear g1 g3 hnd hx g2 g4 n0
                        go_quiet (fail)
                        go_wp2
                        go_roundg (H + 1 - (x + 1)).toNat
                        case measure => have := HX.out; have := HXH.out; omega
                        case rel => exact ⟨x + 1, by rw [w64' _ (by have := HX.out; omega) (by have := HX.out; have := HHB.out; omega)], ⟨⟨by have := HX.out; omega, by have := HXH.out; omega⟩, Nat.le_refl _⟩, ⟨pw_below_drewN HIX.out _⟩⟩
                      · skip
                        have g34 : ¬ (lo ≤ x ∧ x ≤ hi) := fun h => g2 (HDX.out.2 h).2
                        by_cases g3 : lo ≤ x
                        · have g4 : ¬ x ≤ hi := fun h => g34 ⟨g3, h⟩
                          clear g34
                          have v1 : decide (dd ≤ off) = true := decide_eq_true g1
                          have v2 : decide (wrap64 (-dd) ≤ off) = false := by rw [HND.out]; exact decide_eq_false g2
                          have v3 : decide (lo ≤ x) = true := decide_eq_true g3
                          have v4 : decide (x ≤ hi) = false := decide_eq_false g4
                          clear g1 g3 hnd hx g2 g4 n0
                          go_quiet (fail)
                          go_wp2
                          go_roundg (H + 1 - (x + 1)).toNat
                          case measure => have := HX.out; have := HXH.out; omega
                          case rel => exact ⟨x + 1, by rw [w64' _ (by have := HX.out; omega) (by have := HX.out; have := HHB.out; omega)], ⟨⟨by have := HX.out; omega, by have := HXH.out; omega⟩, Nat.le_refl _⟩, ⟨pw_below_drewN HIX.out _⟩⟩
                        · clear g34
                          have v1 : decide (dd ≤ off) = true := decide_eq_true g1
                          have v2 : decide (wrap64 (-dd) ≤ off) = false := by rw [HND.out]; exact decide_eq_false g2
                          have v3 : decide (lo ≤ x) = false := decide_eq_false g3
                          clear g1 g3 hnd hx g2 n0
                          go_quiet (fail)
                          go_wp2
                          go_roundg (H + 1 - (x + 1)).toNat
                          case measure => have := HX.out; have := HXH.out; omega
                          case rel => exact ⟨x + 1, by rw [w64' _ (by have := HX.out; omega) (by have := HX.out; have := HHB.out; omega)], ⟨⟨by have := HX.out; omega, by have := HXH.out; omega⟩, Nat.le_refl _⟩, ⟨pw_below_drewN HIX.out _⟩⟩
                    · skip
                      have g34 : ¬ (lo ≤ x ∧ x ≤ hi) := fun h => g1 (HDX.out.2 h).1
                      by_cases g3 : lo ≤ x
                      · have g4 : ¬ x ≤ hi := fun h => g34 ⟨g3, h⟩
                        clear g34
                        have v1 : decide (dd ≤ off) = false := decide_eq_false g1
                        have v3 : decide (lo ≤ x) = true := decide_eq_true g3
                        have v4 : decide (x ≤ hi) = false := decide_eq_false g4
                        clear g1 g3 hnd hx g4 n0
                        go_quiet (fail)
                        go_wp2
                        go_roundg (H + 1 - (x + 1)).toNat
                        case measure => have := HX.out; have := HXH.out; omega
                        case rel => exact ⟨x + 1, by rw [w64' _ (by have := HX.out; omega) (by have := HX.out; have := HHB.out; omega)], ⟨⟨by have := HX.out; omega, by have := HXH.out; omega⟩, Nat.le_refl _⟩, ⟨pw_below_drewN HIX.out _⟩⟩
                      · clear g34
                        have v1 : decide (dd ≤ off) = false := decide_eq_false g1
                        have v3 : decide (lo ≤ x) = false := decide_eq_false g3
                        clear g1 g3 hnd hx n0
                        go_quiet (fail)
                        go_wp2
                        go_roundg (H + 1 - (x + 1)).toNat
                        case measure => have := HX.out; have := HXH.out; omega
                        case rel => exact ⟨x + 1, by rw [w64' _ (by have := HX.out; omega) (by have := HX.out; have := HHB.out; omega)], ⟨⟨by have := HX.out; omega, by have := HXH.out; omega⟩, Nat.le_refl _⟩, ⟨pw_below_drewN HIX.out _⟩⟩
                  · have u2 : decide (x ≤ wrap64 (wrap64 (p.tdiv s) + 8)) = false := by rw [HHH.out]; exact decide_eq_false hx
                    go_wp2
                    go_roundg (lc.length - (k + 1))
                    case measure => have := HK.out; have := HKK.out; omega
                    case rel => exact ⟨k + 1, by rw [w64' _ (by omega) (by have := HVL.out; have := HKK.out; omega)]; rfl, ⟨by have := HKK.out; omega, Nat.le_refl _⟩, ⟨below_then HI.out HI.out.size HIX.out⟩⟩
               · have u1 : decide ((k : Int) < (lc.length : Int)) = false := decide_eq_false (by omega)
                 have HW3 := Aside0.mk (below_then HW2.out HW2.out.size HI.out)
                 go_wp2
                 go_roundg (cs'.length - (j + 1))
                 case measure => have := HJ.out; have := HJJ.out; omega
                 case rel => exact ⟨j + 1, by first | (rw [HTB.out]; done) | rw [HTB.out, decide_eq_true HZ.out], by rw [w64' _ (by omega) (by have := HLC.out; have := HL.out; have := HJJ.out; omega)]; rfl, ⟨by have := HJJ.out; omega, Nat.le_refl _⟩, HW3⟩
     · have j1 : decide ((j : Int) < (cs'.length : Int)) = false := decide_eq_false (by omega)
       have hje : j = cs'.length := by have := HJ.out; omega
       subst hje
       rw [List.take_length, all_allows HV.out (by have := HSS.out; omega)]
       have HLN := Aside0.mk (show L = if cs'.all (allowsB off s) = true then [s] else [] from HLL.out)
       obtain ⟨P, hP⟩ : ∃ P, P = cs'.all (allowsB off s) := ⟨_, rfl⟩
       rw [← hP] at HGF HLN ⊢
       clear hP HLL
       replace HCL := Aside0.mk (Kd.C_below HCL.out HW.out)
       have HWF := Aside0.mk (below_then HB.out HB.out.size HW.out)
       cases P with
       | true =>
         have hLs : L = [s] := by rw [HLN.out]; exact if_pos rfl
         have hgs : s = gv := by rw [HGF.out.1]; exact (if_pos rfl).symm
         have hfs : fv = 0 := by rw [HGF.out.2]; exact if_pos rfl
         subst hgs hfs
         rw [hLs] at HCL hcL ⊢
         have HNU := Aside0.mk (numbers_f [s] (by simp) 4000 (by simp))
         clear HGF HLN HST HGR hLs
         go_wp2_with fail
         have hbb : Below wr.heap.size wr (wr.alloc (.cells #[.int .i64 s] 3)) := below_alloc (Below.refl _ _) _
         have HC1 := Aside0.mk (one_int (blk_new wr (.cells #[.int .i64 s] 3)))
         replace HCL := Aside0.mk (Kd.C_below HCL.out hbb)
         replace HWF := Aside0.mk (below_then HWF.out HWF.out.size hbb)
         clear hbb
         refine (pianolalaw01_numbers.calls 4000 AL cL [s] _ 1 [s] true _ HCL.out hcL HC1.out (by simp) HNU.out).mono ?_
         rintro e wM ⟨rfl, hd⟩
         have hb := hd.below
         replace HWF := Aside0.mk (below_then HWF.out HWF.out.size hb)
         clear hb hd
         go_wp2_with fail
         refine (works_calls _).mono ?_
         rintro e w7 ⟨rfl, hb⟩
         replace HWF := Aside0.mk (below_then HWF.out HWF.out.size hb)
         clear hb
         go_wp2
         go_ret
         exact ⟨rfl, HWF.out⟩
       | false =>
         have hLs : L = [] := by rw [HLN.out]; exact if_neg (by simp)
         have hfs : fv = 8 := by rw [HGF.out.2]; exact if_neg (by simp)
         subst hfs
         subst hLs
         clear HGF HLN HST HGR
         go_wp2_with fail
         refine (works_calls _).mono ?_
         rintro e w7 ⟨rfl, hb⟩
         replace HWF := Aside0.mk (below_then HWF.out HWF.out.size hb)
         clear hb
         go_wp2
         go_ret
         exact ⟨rfl, HWF.out⟩
end Go.Proofs.Ytnbcdbkhpdpjgaa.H
