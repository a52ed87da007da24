/- The walk of the law StepDivisors: it returns true. -/
import Derived.Test.YtnbcdbkhpdpjgaaHU
import Derived.Test.YtnbcdbkhpdpjgaaHW
import Derived.Test.YtnbcdbkhpdpjgaaHB
namespace Go.Proofs.Ytnbcdbkhpdpjgaa.H
open Go.RowKit Go.Proofs.YtnbcdbkhpdpjgaaW.PrintWords Go.Proofs.YtnbcdbkhpdpjgaaW.PrintLast Go.Proofs.YtnbcdbkhpdpjgaaW.PrintMore
open Go.Proofs.Ytnbcdbkhpdpjgaa.QA
set_option linter.unusedVariables false
set_option linter.unusedSimpArgs false

structure DivF (off : Int) (cs : List (List Int)) (s2 : Int) (L O : List Int) : Prop where
 f1 : step_Steps.f off cs 1 60 = some (L, 0)
 f2 : ∀ x ∈ L, (1 ≤ x ∧ x ≤ 60) ∧ ∀ d, 1 ≤ d → d < x → x % d = 0 → d ∈ L
 f3 : step_Offsets.f off cs 0 s2 = some (O, 0)
 f4 : s2 ∈ L
 f5 : L.length ≤ 60
 f6 : (O.length : Int) = s2
 f7 : ∀ t : Nat, t < O.length → rd O t = t
theorem div_facts {off : Int} {cs : List (List Int)} (h : Valid off cs) (s2 : Int) (ho : off ≤ 6) (h2 : 1 ≤ s2 ∧ s2 ≤ 2 * off + 1) : DivF off cs s2 (stepsFrom off cs 60 1) ((List.range s2.toNat).map fun i : Nat => (i : Int)) := by
 have hne : ∀ l ∈ cs, l ≠ [] := fun l hl e => by have := (h.2.2.2 l hl).1; rw [e] at this; simp at this
 have ho0 := h.1.1
 refine ⟨steps_of h 1 60 (by omega) (by omega) (by omega), fun x hx => ?_, ?_, ?_, steps_len off cs 60 1, by simp; omega, fun t ht => ?_⟩
 · obtain ⟨h3, h4⟩ := (mem_steps off cs 60 1 x).1 hx
   exact ⟨by omega, fun d hd hdx hm => (mem_steps off cs 60 1 d).2 ⟨by omega, fun l hl => allows_div off x d l (by omega) (by omega) ho0 (hne l hl) hm (h4 l hl)⟩⟩
 · rw [offsets_of h 0 s2 ⟨Int.le_refl _, by have := h.2.1; omega⟩ (by omega), offs_all off s2 _ (by omega) h2.2]
 · exact (mem_steps off cs 60 1 s2).2 ⟨by omega, fun l hl => allows_small off s2 l (by omega) h2.2 (hne l hl)⟩
 · rw [List.length_map, List.length_range] at ht
   unfold rd
   rw [Int.toNat_natCast, List.getD_eq_getElem?_getD, List.getElem?_map, List.getElem?_range ht]
   rfl

set_option maxHeartbeats 8000000 in
set_option maxRecDepth 100000 in
theorem stepDivisors_calls (a0 a1 a2 a3 a4 : Int) (A : Option Addr) (c : Nat) (l : List S92) (b1 b2 : Int) (w : World) (hr : Kd.C k92 w A l.length l) (hc : l.length ≤ c) (hok : mdOk a0 a1 a2 a3 a4 l) (h1 : isByte b1) (h2 : isByte b2) :
  Calls Try.prog 10 #[.agg #[.int .u8 a0, .int .u8 a1, .int .u8 a2, .int .u8 a3, .int .u8 a4, .slice A l.length c], .int .u8 b1, .int .u8 b2] w fun e w' => e = .returned (.bool true) ∧ Below w.heap.size w w' := by
 have hu24 := Try.underlying24
 have hu59 := Try.underlying59
 have hu46 := Try.underlying46
 obtain ⟨off, cs, s, os, rs, hmd, hM⟩ := made_true a0 a1 a2 a3 a4 l hok
 unfold isByte at h1 h2
 obtain ⟨hs0, hs1⟩ := hM.hc
 obtain ⟨_, ⟨hl0, hl1⟩, _, htr⟩ := hM.inn 0 (by omega)
 have ht0 := htr 0 (by omega)
 unfold Tr at ht0
 obtain ⟨p0, hp0⟩ : ∃ p0, p0 = (cs.getD 0 []).getD 0 0 := ⟨_, rfl⟩
 rw [← hp0] at ht0
 have hV := valid_put hM.valid 0 0 (p0 + b1 % 20) (by omega)
 have hD := div_facts hV (1 + b2 % (2 * off + 1)) (by have := hM.ho; omega) ⟨by have := Int.emod_nonneg b2 (b := 2 * off + 1) (by have := hM.ho; omega); omega, by have := Int.emod_lt_of_pos b2 (b := 2 * off + 1) (by have := hM.ho; omega); omega⟩
 have HMD := Aside0.mk hmd
 have HR := Aside0.mk hr
 have HD := Aside0.mk hD
 have HP := Aside0.mk (And.intro ht0.1 hp0)
 have HL := Aside0.mk (And.intro (And.intro hs0 hs1) (And.intro hl0 hl1))
 have HO := Aside0.mk hM.ho
 have HY := Aside0.mk (And.intro h1 h2)
 clear hmd hr hD ht0 hp0 htr hV hM hok hs0 hs1 hl0 hl1 h1 h2
 go_enter Try.func10, Try.ntmps10
 go_wp2_with fail
 refine (pianolalaw01_Master_made.calls a0 a1 a2 a3 a4 A c l off cs s os rs _ (Kd.C_alloc HR.out _) hc HMD.out).mono ?_
 rintro e w1 ⟨v1, v2, v3, rfl, hS, hO, hR, hb⟩
 obtain ⟨gx, cx, rfl, _, _, _⟩ := Kd.S_form hS (by have := HL.out; omega)
 have HB := Aside0.mk (below_then (below_alloc (Below.refl w.heap.size w) _) (by simp) hb)
 have HS := Aside0.mk (Kd.S_lower (base' := w.heap.size) (Kd.S_mono hS (fun _ _ => trivial) : Kd.S dL 34 w1 _ (fun _ => True) _ _) (by simp))
 clear hS hO hR hb
 go_upto_region 2 with fail
 have BX := Aside0.mk (blk_new w1 (.cells #[.int .i64 off, .slice (some ⟨gx, 0, none⟩) cs.length cx] 24))
 replace HS := Aside0.mk (Kd.S_alloc HS.out (.cells #[.int .i64 off, .slice (some ⟨gx, 0, none⟩) cs.length cx] 24))
 replace HB := Aside0.mk (below_alloc HB.out (.cells #[.int .i64 off, .slice (some ⟨gx, 0, none⟩) cs.length cx] 24))
 generalize w1.alloc (.cells #[.int .i64 off, .slice (some ⟨gx, 0, none⟩) cs.length cx] 24) = w2 at BX HS HB ⊢
 generalize w1.heap.size = g7 at BX ⊢
 obtain ⟨gu, cu, q1, q2, q3, q4, ⟨cells, q5⟩, q6⟩ := put_at HS.out 0 0 (by have := HL.out; omega) (by have := HL.out; omega)
 rw [← HP.out.2] at q2
 obtain ⟨c0, hc0⟩ : ∃ c0, c0 = cs.getD 0 [] := ⟨_, rfl⟩
 have n1 : 0 < c0.length := by rw [hc0]; have := HL.out; omega
 rw [← hc0] at q1 q6
 have HC0 := Aside0.mk hc0
 clear hc0
 have kx : w2.cell? ⟨g7, 1, none⟩ = some (.slice (some ⟨gx, 0, none⟩) cs.length cx) := (blk_cell BX.out 1).trans rfl
 have n0 : 0 < cs.length := by have := HL.out; omega
 have HQ := Aside0.mk (And.intro q4 (And.intro q5 q6))
 clear q4 q5 q6
 go_upto_region 3 with fail
 have er : wrap64 (p0 + (wrap64 b1).tmod 20) = p0 + b1 % 20 := by
  have h1 := HY.out.1
  have h3 := HP.out.1
  rw [w64' b1 (by omega) (by omega), Int.tmod_eq_emod_of_nonneg (by omega), w64' _ (by omega) (by omega)]
 rw [er]
 have h3 := HQ.out.2.2 (p0 + b1 % 20)
 have h4 := below_set (j := 0) (v := .int .i64 (p0 + b1 % 20)) HB.out HQ.out.1
 have h5 := blk_far BX.out (p := ⟨gu, 0, none⟩) (blk_ne BX.out HQ.out.2.1 (by decide)) (.int .i64 (p0 + b1 % 20))
 replace HS := Aside0.mk h3
 replace HB := Aside0.mk h4
 replace BX := Aside0.mk h5
 clear h3 h4 h5 er kx q1 q2 q3 HQ
 generalize w2.setCell ⟨gu, 0, none⟩ (.int .i64 (p0 + b1 % 20)) = w3 at HS HB BX ⊢
 rw [← HC0.out] at HD
 generalize hcs : cs.set 0 (c0.set 0 (p0 + b1 % 20)) = cs' at HS HD
 have hlen : cs.length = cs'.length := by rw [← hcs, List.length_set]
 rw [hlen] at HS BX n0 ⊢
 clear hcs hlen n1 HC0 HP HMD
 generalize stepsFrom off cs' 60 1 = L at HD
 obtain ⟨s2, hs2⟩ : ∃ s2, s2 = 1 + b2 % (2 * off + 1) := ⟨_, rfl⟩
 rw [← hs2] at HD
 generalize (List.map (fun i : Nat => (i : Int)) (List.range s2.toNat)) = O at HD
 have HS2 := Aside0.mk hs2
 clear hs2
 have HC := Aside0.mk (Kd.S_reads' HS.out).2.2
 have hcx := (Kd.S_reads' HS.out).2.1
 have k0 : w3.cell? ⟨g7, 0, none⟩ = some (.int .i64 off) := (blk_cell BX.out 0).trans rfl
 have k1 : w3.cell? ⟨g7, 1, none⟩ = some (.slice (some ⟨gx, 0, none⟩) cs'.length cx) := (blk_cell BX.out 1).trans rfl
 clear HS
 go_wp2_with fail
 refine (step_Steps.calls off (some ⟨gx, 0, none⟩) cx cs' 1 60 L 0 _ HC.out hcx HD.out.f1).mono ?_
 rintro e w4 ⟨v, rfl, hR, hb⟩
 obtain ⟨AL, cL, rfl, hcL, hCL⟩ := Kd.R_reads hR
 have HCL := Aside0.mk hCL
 replace HC := Aside0.mk (Kd.C_below HC.out hb)
 replace HB := Aside0.mk (below_then HB.out HB.out.size hb)
 replace BX := Aside0.mk (blk_below BX.out hb)
 clear hR hCL hb k0 k1 n0
 go_wp2
 go_loopg [48] L.length (fun gg s48 wr => ∃ j : Nat, s48 = .int .i64 j ∧ Aside0 (j ≤ L.length ∧ L.length - j ≤ gg) ∧ Aside0 (Below w4.heap.size w4 wr))
 case atStart => exact ⟨0, rfl, ⟨by omega, by omega⟩, ⟨Below.refl _ _⟩⟩
 case round =>
  obtain ⟨j, rfl, HJ, HW⟩ := hrel
  by_cases hj : j < L.length
  · have j1 : decide ((j : Int) < (L.length : Int)) = true := decide_eq_true (by omega)
    obtain ⟨ad, eA, hx⟩ := Kd.at_int HCL.out (j : Int) (by omega) (by omega)
    subst eA
    rw [Int.toNat_natCast] at hx
    have hm : rd L (j : Int) ∈ L := by
     unfold rd; rw [Int.toNat_natCast, List.getD_eq_getElem?_getD, List.getElem?_eq_getElem hj]; exact List.getElem_mem hj
    have hf := HD.out.f2 _ hm
    generalize rd L (j : Int) = x at hx hf
    replace hx := (HW.out.cell (World.block_lt_of_cell? w4 _ hx)).trans hx
    have HX := Aside0.mk hf
    have x1 : decide (x < 1) = false := decide_eq_false (by omega)
    have x2 : decide (60 < x) = false := decide_eq_false (by omega)
    clear hm hf
    go_wp2
    go_loopg [15] 60 (fun g2 s15 wi => ∃ d : Int, s15 = .int .i64 d ∧ Aside0 ((1 ≤ d ∧ d ≤ x) ∧ (x - d).toNat ≤ g2) ∧ Aside0 (Below w4.heap.size w4 wi))
    case atStart => exact ⟨1, rfl, ⟨by have := HX.out.1; omega, by have := HX.out.1; omega⟩, HW⟩
    case round =>
     have HY2 := Aside0.mk hj
     clear hx x1 x2 j1 hj
     obtain ⟨d, rfl, HE, HI⟩ := hrel
     by_cases hd : d < x
     · have y1 : decide (d < x) = true := decide_eq_true hd
       have dn : ¬ d = 0 := by have := HE.out; omega
       have et : x.tmod d = x % d := Int.tmod_eq_emod_of_nonneg (by have := HX.out; omega)
       have wd : wrap64 (d + 1) = d + 1 := w64' _ (by have := HE.out; omega) (by have := HX.out; omega)
       have HWD := Aside0.mk wd
       have HDX := Aside0.mk hd
       by_cases hm : x % d = 0
       · have m1 : (x.tmod d == 0) = true := by rw [et, hm]; rfl
         have HH := Aside0.mk (show pianolalaw01_has.f 100 L d = some true by rw [has_f L d (by have := HD.out.f5; omega) 100 (by have := HD.out.f5; omega), decide_eq_true (HX.out.2 d HE.out.1.1 hd hm)])
         clear et wd hm hd
         go_wp2_with fail
         refine (pianolalaw01_has.calls 100 (some ad) cL L d true _ (Kd.C_below HCL.out HI.out) hcL HH.out).mono ?_
         rintro e w5 ⟨rfl, hd⟩
         have hI := below_then HI.out HI.out.size hd.below
         replace HI := Aside0.mk hI
         clear hd hI
         go_wp2
         go_roundg (x - (d + 1)).toNat
         case measure => have := HE.out; have := HDX.out; omega
         case rel => exact ⟨d + 1, by first | rfl | rw [HWD.out], ⟨by have := HE.out; have := HDX.out; omega, Nat.le_refl _⟩, HI⟩
       · have m1 : (x.tmod d == 0) = false := by rw [et]; exact beq_eq_false_iff_ne.mpr hm
         clear et wd hm
         go_wp2
         go_roundg (x - (d + 1)).toNat
         case measure => have := HE.out; have := HDX.out; omega
         case rel => exact ⟨d + 1, by first | rfl | rw [HWD.out], ⟨by have := HE.out; have := HDX.out; omega, Nat.le_refl _⟩, HI⟩
     · have y1 : decide (d < x) = false := decide_eq_false hd
       have wj : wrap64 ((j : Int) + 1) = ((j + 1 : Nat) : Int) := w64' _ (by omega) (by have := HD.out.f5; have := HJ.out; omega)
       have HWJ := Aside0.mk wj
       clear wj
       go_wp2
       go_roundg (L.length - (j + 1))
       case measure => have := HJ.out; have := HY2.out; omega
       case rel => exact ⟨j + 1, by first | rfl | rw [HWJ.out], ⟨by have := HY2.out; omega, Nat.le_refl _⟩, HI⟩
  · have j1 : decide ((j : Int) < (L.length : Int)) = false := decide_eq_false (by omega)
    have k0 : wr.cell? ⟨g7, 0, none⟩ = some (.int .i64 off) := (blk_cell (blk_below BX.out HW.out) 0).trans rfl
    have k1 : wr.cell? ⟨g7, 1, none⟩ = some (.slice (some ⟨gx, 0, none⟩) cs'.length cx) := (blk_cell (blk_below BX.out HW.out) 1).trans rfl
    have t4 : ¬ wrap64 (wrap64 (2 * off) + 1) = 0 := by
     have := HO.out
     rw [w64' (2 * off) (by omega) (by omega), w64' _ (by omega) (by omega)]; omega
    go_upto_region 18 with fail
    have ev : wrap64 (1 + (wrap64 b2).tmod (wrap64 (wrap64 (2 * off) + 1))) = s2 := by
     have h6 := HO.out
     have h7 := HY.out.2
     rw [w64' (2 * off) (by omega) (by omega), w64' (2 * off + 1) (by omega) (by omega), w64' b2 (by omega) (by omega), Int.tmod_eq_emod_of_nonneg (by omega), HS2.out]
     have h8 := Int.emod_nonneg b2 (b := 2 * off + 1) (by omega)
     have h9 := Int.emod_lt_of_pos b2 (b := 2 * off + 1) (by omega)
     exact w64' _ (by omega) (by omega)
    rw [ev]
    clear ev t4
    have HWF := Aside0.mk (Kd.C_below HC.out HW.out)
    go_wp2_with fail
    refine (step_Offsets.calls off (some ⟨gx, 0, none⟩) cx cs' 0 s2 O 0 _ HWF.out hcx HD.out.f3).mono ?_
    rintro e w5 ⟨v, rfl, hR, hb⟩
    obtain ⟨AO, cO, rfl, hcO, hCO⟩ := Kd.R_reads hR
    have HCO := Aside0.mk hCO
    have hW := below_then HW.out HW.out.size hb
    replace HW := Aside0.mk hW
    have o1 : ((O.length : Int) != s2) = false := by rw [HD.out.f6]; simp
    clear hR hCO hb hW k0 k1 HWF
    go_wp2
    go_loopg [98] O.length (fun gg s98 wi => ∃ t : Nat, s98 = .int .i64 t ∧ Aside0 (t ≤ O.length ∧ O.length - t ≤ gg) ∧ Aside0 (Below w5.heap.size w5 wi))
    case atStart => exact ⟨0, rfl, ⟨by omega, by omega⟩, ⟨Below.refl _ _⟩⟩
    case round =>
     obtain ⟨t, rfl, HT, HI⟩ := hrel
     clear o1
     by_cases ht : t < O.length
     · have u1 : decide ((t : Int) < (O.length : Int)) = true := decide_eq_true (by omega)
       obtain ⟨ad, eA, hx⟩ := Kd.at_int HCO.out (t : Int) (by omega) (by omega)
       subst eA
       rw [Int.toNat_natCast, HD.out.f7 t ht] at hx
       replace hx := (HI.out.cell (World.block_lt_of_cell? w5 _ hx)).trans hx
       have HTT := Aside0.mk ht
       go_wp2
       go_roundg (O.length - (t + 1))
       case measure => have := HT.out; have := HTT.out; omega
       case rel => exact ⟨t + 1, by rw [w64' _ (by omega) (by have := HTT.out; have := HO.out; have := HD.out.f6; have := (HD.out.f2 _ HD.out.f4).1; omega)]; rfl, ⟨by have := HTT.out; omega, Nat.le_refl _⟩, HI⟩
     · have u1 : decide ((t : Int) < (O.length : Int)) = false := decide_eq_false (by omega)
       have HH := Aside0.mk (show pianolalaw01_has.f 100 L s2 = some true by rw [has_f L s2 (by have := HD.out.f5; omega) 100 (by have := HD.out.f5; omega), decide_eq_true HD.out.f4])
       have HWI := Aside0.mk (below_then HW.out HW.out.size HI.out)
       go_wp2_with fail
       refine (pianolalaw01_has.calls 100 AL cL L s2 true _ (Kd.C_below HCL.out HWI.out) hcL HH.out).mono ?_
       rintro e w6 ⟨rfl, hd⟩
       replace HWI := Aside0.mk (below_then HWI.out HWI.out.size hd.below)
       clear hd
       go_wp2_with fail
       refine (works_calls _).mono ?_
       rintro e w7 ⟨rfl, hb⟩
       replace HWI := Aside0.mk (below_then HWI.out HWI.out.size hb)
       clear hb
       go_wp2
       go_ret
       exact ⟨rfl, below_then HB.out HB.out.size HWI.out⟩

end Go.Proofs.Ytnbcdbkhpdpjgaa.H
